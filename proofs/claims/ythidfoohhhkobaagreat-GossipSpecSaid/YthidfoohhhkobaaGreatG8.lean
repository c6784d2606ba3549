import Derived.Test.YthidfoohhhkobaaGreatG7
import Derived.Laws.BytesArg
import Derived.Laws.IdiomStrings
import Derived.Deep.RegionLaw
import Derived.Defers
import Derived.Recover
namespace Go.Proofs.YthidfoohhhkobaaGreat.Cd
set_option linter.unusedSimpArgs false
set_option linter.unusedVariables false
open Go.RowKit
attribute [local go_sem ↓] Go.wp_at_zero Go.wp_at_succ
theorem Bytes.conv {w:World} {a:Option Addr} {bs:List UInt8} (h:Bytes w a bs) (cap:Nat):(convert 50 9 (.slice a bs.length cap)).run Tryz.prog w= .ok (.string ⟨bs.toArray⟩) w:=by
 cases a with
 |none=>
   have:bs=[]:=by
    rcases h with h|⟨b,off,h,_⟩
    ·exact h
    ·cases h
   subst this
   exact run_convert_bytes_nil w 50 5 Tryz.underlying50 Tryz.underlying5 0 cap 9 Tryz.underlying9
 |some ad=>
   refine run_convert_bytes_back w 50 9 5 ad cap bs Tryz.underlying50 Tryz.underlying5 Tryz.underlying9 fun j hj=>?_
   rcases h with h|⟨b,off,h,hc⟩
   ·subst h;simp at hj
   ·injection h with h
    subst h
    have:=hc j hj
    by_cases h0:j=0
    ·subst h0;simpa [Addr.add,byteV] using this
    ·simpa [Addr.add,h0,byteV] using this
def ValRd (d:Nat) (bs:List UInt8) (B:Nat) (w:World) (e:Ending) (w':World):Prop:=
 w.grownBy w' (some B)∧((∃ v r c,decV d bs=some (v,r)∧r.length≤bs.length∧e= .returned c∧RepF (fun b=>w.heap.size≤b∧b < w'.heap.size) w' v c∧Rd w' B r)∨(decV d bs=none∧e= .panicked codeP))
def Box4 (w:World) (X:Nat) (c0 c1 c2 c3:Value):Prop:=w.heap[X]? =some (.cells #[c0,c1,c2,c3] 79 (0,0))
theorem Box4.cells {w:World} {X:Nat} {c0 c1 c2 c3:Value} (h:Box4 w X c0 c1 c2 c3):w.cell? ⟨X,0,none⟩=some c0∧w.cell? ⟨X,1,none⟩=some c1∧w.cell? ⟨X,2,none⟩=some c2∧w.cell? ⟨X,3,none⟩=some c3:=by
 unfold Box4 at h;simp [World.cell?,h]
theorem Box4.free {w:World} {X:Nat} {c0 c1 c2 c3:Value} (h:Box4 w X c0 c1 c2 c3):w.frozen? ⟨X,0,none⟩=false∧w.frozen? ⟨X,1,none⟩=false∧w.frozen? ⟨X,2,none⟩=false∧w.frozen? ⟨X,3,none⟩=false:=by
 unfold Box4 at h;simp [World.frozen?,h]
theorem Box4.new (w:World) (c0 c1 c2 c3:Value):Box4 (w.alloc (.cells #[c0,c1,c2,c3] 79)) w.heap.size c0 c1 c2 c3:=heap_alloc_new w _
theorem Box4.kept {w w':World} {X:Nat} {c0 c1 c2 c3:Value} {row:Option Nat} (h:Box4 w X c0 c1 c2 c3) (hg:w.grownBy w' row) (hne:some X≠row):Box4 w' X c0 c1 c2 c3:=
 (hg.block X (by have:=(Array.getElem?_eq_some_iff.1 h).1;exact this) hne).trans h
theorem Rd.alloc {w:World} {B:Nat} {bs:List UInt8} (h:Rd w B bs) (o:Obj):Rd (w.alloc o) B bs:=by
 obtain ⟨a,cap,hB,hl,hcap,hby,hlt⟩:=h
 have hBl:B < w.heap.size:=(Array.getElem?_eq_some_iff.1 hB).1
 exact ⟨a,cap,(Below.heap_alloc w o B hBl).trans hB,hl,hcap,hby.below ((Below.refl _ _).alloc (Nat.le_refl _) _),hlt⟩
theorem Rd.lt {w:World} {B:Nat} {bs:List UInt8} (h:Rd w B bs):B < w.heap.size:=by
 obtain ⟨a,cap,hB,_⟩:=h
 exact (Array.getElem?_eq_some_iff.1 hB).1
theorem Rd.len {w:World} {B:Nat} {bs:List UInt8} (h:Rd w B bs):bs.length≤1000000:=by
 obtain ⟨a,cap,hB,hl,hcap,_⟩:=h
 exact hcap
theorem Rd.keep {w w':World} {B:Nat} {bs:List UInt8} (h:Rd w B bs) (hk:∀ b,b≤B→w'.heap[b]? =w.heap[b]?):Rd w' B bs:=by
 obtain ⟨a,cap,hB,hl,hcap,hby,hlt⟩:=h
 refine ⟨a,cap,(hk B (Nat.le_refl _)).trans hB,hl,hcap,?_,hlt⟩
 rcases hby with h|⟨b,off,rfl,hc⟩
 ·exact .inl h
 ·have hb:b < B:=hlt _ rfl
  exact .inr ⟨b,off,rfl,fun i hi=>(World.cell?_of_block (w:=w) (w':=w') (a:=⟨b,off+i,none⟩) (hk b (by omega))).trans (hc i hi)⟩
theorem decV_1 (d:Nat) (c:UInt8) (r:List UInt8) (h:c.toNat=1):decV d (c :: r)=decInt r:=by unfold decV;rw [if_pos h]
theorem decV_2 (d:Nat) (c:UInt8) (r:List UInt8) (h:c.toNat=2):decV d (c :: r)=decText r:=by unfold decV;rw [if_neg (by omega),if_pos h]
theorem decV_3 (d:Nat) (c:UInt8) (r:List UInt8) (h:c.toNat=3):decV (d+1) (c :: r)=decList (decV d) r:=by unfold decV;rw [if_neg (by omega),if_neg (by omega),if_pos h]
theorem decV_30 (c:UInt8) (r:List UInt8) (h:c.toNat=3):decV 0 (c :: r)=none:=by unfold decV;rw [if_neg (by omega),if_neg (by omega),if_pos h]
theorem decV_o (d:Nat) (c:UInt8) (r:List UInt8) (h1:¬ c.toNat=1) (h2:¬ c.toNat=2) (h3:¬ c.toNat=3):decV d (c :: r)=none:=by unfold decV;rw [if_neg h1,if_neg h2,if_neg h3]
theorem decV_nil (d:Nat):decV d []=none:=by unfold decV;rfl
theorem Box4.set0 {w:World} {X:Nat} {c0 c1 c2 c3:Value} (h:Box4 w X c0 c1 c2 c3) (u:Value):Box4 (w.setCell ⟨X,0,none⟩ u) X u c1 c2 c3:=by
 unfold Box4 at h ⊢;simp only [World.setCell,Array.getElem?_modify,h];simp
theorem Box4.set1 {w:World} {X:Nat} {c0 c1 c2 c3:Value} (h:Box4 w X c0 c1 c2 c3) (u:Value):Box4 (w.setCell ⟨X,1,none⟩ u) X c0 u c2 c3:=by
 unfold Box4 at h ⊢;simp only [World.setCell,Array.getElem?_modify,h];simp
theorem Box4.set2 {w:World} {X:Nat} {c0 c1 c2 c3:Value} (h:Box4 w X c0 c1 c2 c3) (u:Value):Box4 (w.setCell ⟨X,2,none⟩ u) X c0 c1 u c3:=by
 unfold Box4 at h ⊢;simp only [World.setCell,Array.getElem?_modify,h];simp
theorem Box4.set3 {w:World} {X:Nat} {c0 c1 c2 c3:Value} (h:Box4 w X c0 c1 c2 c3) (u:Value):Box4 (w.setCell ⟨X,3,none⟩ u) X c0 c1 c2 u:=by
 unfold Box4 at h ⊢;simp only [World.setCell,Array.getElem?_modify,h];simp
theorem grownBy_set {a w:World} {B:Nat} (h:a.grownBy w (some B)) (X o:Nat) (u:Value) (hX:a.heap.size≤X):a.grownBy (w.setCell ⟨X,o,none⟩ u) (some B):=
 h.andThen (row':=some X) ⟨rfl,rfl,rfl,by simp [World.setCell],fun k _ hk=>Below.heap_setCell w ⟨X,o,none⟩ u k (fun e=>hk (by rw [e]))⟩ (fun j hj=>by cases hj;exact .inl hX)
theorem Rd.set {w:World} {B:Nat} {bs:List UInt8} (h:Rd w B bs) (X o:Nat) (u:Value) (hX:B < X):Rd (w.setCell ⟨X,o,none⟩ u) B bs:=
 h.keep fun b hb=>Below.heap_setCell w ⟨X,o,none⟩ u b (by show b≠X;omega)
structure At1 (w:World) (B:Nat) (r:List UInt8) (x:Int) (w2:World):Prop where
 box:Box4 w2 w.heap.size (.int .i64 x) (.int .i64 0) (.string ⟨#[]⟩) (.slice none 0 0)
 rd:Rd w2 B r
 by_:w.grownBy w2 (some B)
 lt:w.heap.size < w2.heap.size
theorem at1_of {w w1:World} {B:Nat} {r:List UInt8} (x:Int) (hB:B < w.heap.size) (hg:(w.alloc (.cells #[.int .i64 0,.int .i64 0,.string ⟨#[]⟩,.slice none 0 0] 79)).grownBy w1 (some B)) (hrd:Rd w1 B r):
  At1 w B r x (w1.setCell ⟨w.heap.size,0,none⟩ (.int .i64 x)):=by
 have hX:=(Box4.new w (.int .i64 0) (.int .i64 0) (.string ⟨#[]⟩) (.slice none 0 0)).kept hg (by simp;omega)
 have hs:=hg.size
 rw [size_a1] at hs
 refine ⟨hX.set0 _,hrd.set _ _ _ hB,grownBy_set ((World.grownBy_alloc w _ _).andThen hg (fun j hj=> .inr hj)) _ _ _ (Nat.le_refl _),?_⟩
 simp [World.setCell];omega
theorem repF_leaf {F:Nat→Prop} {w:World} {k n:Int} {s:List UInt8} (hk:i64R k) (hn:i64R n) (hs:s.length≤140737488351232):RepF F w (.mk k n s []) (.agg #[.int .i64 k,.int .i64 n,.string ⟨s.toArray⟩,.slice none 0 0]):=by
 simp only [RepF,List.length_nil]
 exact ⟨none,0,rfl,hk,hn,hs,by omega,by omega,by simp only [RepFL]⟩
set_option maxRecDepth 100000 in
set_option maxHeartbeats 3200000 in
theorem value_1 (d:Nat) (c:UInt8) (r:List UInt8) (B:Nat) (w:World) (hr:Rd w B (c :: r)) (hx:c.toNat=1) (dep:Int):
  Calls Tryz.prog 92 #[.pointer (some ⟨B,0,none⟩),.int .i64 dep] w (ValRd d (c :: r) B w):=by
 have HDV:=Lib.hid (decV_1 d c r hx)
 have HXE:=Lib.hid hx
 clear hx
 have hBl:=hr.lt
 have HR:=Lib.hid (hr.alloc (.cells #[.int .i64 0,.int .i64 0,.string ⟨#[]⟩,.slice none 0 0] 79))
 have hX:=Box4.new w (.int .i64 0) (.int .i64 0) (.string ⟨#[]⟩) (.slice none 0 0)
 have HX:=Lib.hid hX
 clear hr hX
 go_enter Tryz.func92,Tryz.ntmps92
 go_wp2_with fail
 refine (take_rd HR.out 1 (by simp)).mono ?_
 rintro e w1 ⟨a1,rfl,hby,_,hrd1,hgr1⟩
 obtain ⟨b1,off1,rfl,hc1⟩:=hby.resolve_left (by simp)
 have hc0:=hc1 0 (by simp)
 simp only [List.take_succ_cons,List.take_zero,List.getElem_cons_zero,Nat.add_zero,byteV,HXE.out] at hc0
 simp only [List.drop_succ_cons,List.drop_zero] at hrd1
 have hX1:=HX.out.kept hgr1 (by simp;omega)
 obtain ⟨x0,x1,x2,x3⟩:=hX1.cells
 obtain ⟨f0,f1,f2,f3⟩:=hX1.free
 have hat:=at1_of 1 hBl hgr1 hrd1
 have HAT:=Lib.hid hat
 clear hby hc1 hrd1 hX1 hat hgr1 HX HR
 go_wp2_with fail
 generalize w1.setCell ⟨w.heap.size,0,none⟩ (.int .i64 1)=W2 at *
 clear x0 x1 x2 x3 f0 f1 f2 f3 hc0
 refine (number_any r B W2 HAT.out.rd).mono ?_
 rintro e w3 ⟨hg3,⟨u,r',hd,rfl,hrd3⟩|⟨hd,rfl⟩⟩
 ·obtain ⟨hu,hrb⟩:=decNum_lt hd
  have hX3:=HAT.out.box.kept hg3 (by simp;omega)
  obtain ⟨x0,x1,x2,x3⟩:=hX3.cells
  obtain ⟨f0,f1,f2,f3⟩:=hX3.free
  have HX3:=Lib.hid hX3
  have HRD3:=Lib.hid hrd3
  have HD:=Lib.hid hd
  have HU:=Lib.hid hu
  have HG3:=Lib.hid hg3
  clear hX3 hrd3 hd hu hg3
  go_wp2_with fail
  refine (signed_any u _ HU.out).mono ?_
  rintro e w4 ⟨rfl,rfl⟩
  go_wp2
  refine bodyPost_ret (v:= .agg #[.int .i64 1,.int .i64 (unzz u),.string ⟨#[]⟩,.slice none 0 0]) (by simp [results,Tryz.results92,go_sem,x0,x1,x2,x3]) rfl ?_
  have hdv:decV d (c :: r)=some (.mk 1 (unzz u) [] [],r'):=by rw [HDV.out];unfold decInt;rw [HD.out]
  refine ⟨?_,.inl ⟨_,r',_,hdv,by simp;omega,rfl,repF_leaf (s:=[]) (by unfold i64R;omega) (unzz_R HU.out) (by simp),?_⟩⟩
  ·repeat (refine grownBy_set ?_ _ _ _ (Nat.le_refl _))
   exact HAT.out.by_.andThen HG3.out (fun j hj=> .inr hj)
  ·exact ((((HRD3.out.set _ _ _ hBl).set _ _ _ hBl).set _ _ _ hBl).set _ _ _ hBl).set _ _ _ hBl
 ·exact ⟨rfl,HAT.out.by_.andThen hg3 (fun j hj=> .inr hj),.inr ⟨by rw [HDV.out];unfold decInt;rw [hd],rfl⟩⟩
set_option maxRecDepth 100000 in
set_option maxHeartbeats 3200000 in
theorem value_2 (d:Nat) (c:UInt8) (r:List UInt8) (B:Nat) (w:World) (hr:Rd w B (c :: r)) (hx:c.toNat=2) (dep:Int):
  Calls Tryz.prog 92 #[.pointer (some ⟨B,0,none⟩),.int .i64 dep] w (ValRd d (c :: r) B w):=by
 have HDV:=Lib.hid (decV_2 d c r hx)
 have HXE:=Lib.hid hx
 clear hx
 have hBl:=hr.lt
 have HR:=Lib.hid (hr.alloc (.cells #[.int .i64 0,.int .i64 0,.string ⟨#[]⟩,.slice none 0 0] 79))
 have hX:=Box4.new w (.int .i64 0) (.int .i64 0) (.string ⟨#[]⟩) (.slice none 0 0)
 have HX:=Lib.hid hX
 clear hr hX
 go_enter Tryz.func92,Tryz.ntmps92
 go_wp2_with fail
 refine (take_rd HR.out 1 (by simp)).mono ?_
 rintro e w1 ⟨a1,rfl,hby,_,hrd1,hgr1⟩
 obtain ⟨b1,off1,rfl,hc1⟩:=hby.resolve_left (by simp)
 have hc0:=hc1 0 (by simp)
 simp only [List.take_succ_cons,List.take_zero,List.getElem_cons_zero,Nat.add_zero,byteV,HXE.out] at hc0
 simp only [List.drop_succ_cons,List.drop_zero] at hrd1
 have hX1:=HX.out.kept hgr1 (by simp;omega)
 obtain ⟨x0,x1,x2,x3⟩:=hX1.cells
 obtain ⟨f0,f1,f2,f3⟩:=hX1.free
 have hat:=at1_of 2 hBl hgr1 hrd1
 have HAT:=Lib.hid hat
 clear hby hc1 hrd1 hX1 hat hgr1 HX HR
 go_wp2_with fail
 generalize w1.setCell ⟨w.heap.size,0,none⟩ (.int .i64 2)=W2 at *
 clear x0 x1 x2 x3 f0 f1 f2 f3 hc0
 refine (length_any r B W2 HAT.out.rd).mono ?_
 rintro e w3 ⟨hg3,⟨n,r',hd,hn,hrb,rfl,hrd3⟩|⟨hd,rfl⟩⟩
 ·have hX3:=HAT.out.box.kept hg3 (by simp;omega)
  have HX3:=Lib.hid hX3
  have HRD3:=Lib.hid hrd3
  have HD:=Lib.hid hd
  have HG3:=Lib.hid hg3
  have hrl:=hrd3.len
  clear hX3 hrd3 hd hg3
  go_wp2_with fail
  refine (take_rd HRD3.out n hn).mono ?_
  rintro e w4 ⟨a4,rfl,hby4,_,hrd4,hg4⟩
  have hX4:=HX3.out.kept hg4 (by simp;omega)
  obtain ⟨x0,x1,x2,x3⟩:=hX4.cells
  obtain ⟨f0,f1,f2,f3⟩:=hX4.free
  have hcv:=hby4.conv n
  have hln:(r'.take n).length=n:=by rw [List.length_take];omega
  rw [hln] at hcv
  have HRD4:=Lib.hid hrd4
  have HG4:=Lib.hid hg4
  have HLN:=Lib.hid hln
  clear hX4 hrd4 hg4 hby4 hln
  go_wp2
  refine bodyPost_ret (v:= .agg #[.int .i64 2,.int .i64 0,.string ⟨(r'.take n).toArray⟩,.slice none 0 0]) (by simp [results,Tryz.results92,go_sem,x0,x1,x2,x3]) rfl ?_
  have hdv:decV d (c :: r)=some (.mk 2 0 (r'.take n) [],r'.drop n):=by
   have h1:=HD.out
   rw [HDV.out]
   unfold decText
   unfold decLen at h1
   cases hd:decNum r with
   |none=>rw [hd] at h1;cases h1
   |some p=>
     obtain ⟨n',r''⟩:=p
     rw [hd] at h1
     simp only at h1 ⊢
     split at h1
     ·rename_i hle
      simp only [Option.some.injEq,Prod.mk.injEq] at h1
      obtain ⟨rfl,rfl⟩:=h1
      rw [if_pos hle]
     ·cases h1
  refine ⟨?_,.inl ⟨_,r'.drop n,_,hdv,by simp;omega,rfl,repF_leaf (by unfold i64R;omega) (by unfold i64R;omega) (by have:=HLN.out;omega),?_⟩⟩
  ·repeat (refine grownBy_set ?_ _ _ _ (Nat.le_refl _))
   exact (HAT.out.by_.andThen HG3.out (fun j hj=> .inr hj)).andThen HG4.out (fun j hj=> .inr hj)
  ·exact ((((HRD4.out.set _ _ _ hBl).set _ _ _ hBl).set _ _ _ hBl).set _ _ _ hBl).set _ _ _ hBl
 ·refine ⟨rfl,HAT.out.by_.andThen hg3 (fun j hj=> .inr hj),.inr ⟨?_,rfl⟩⟩
  rw [HDV.out]
  unfold decText
  unfold decLen at hd
  cases hn:decNum r with
  |none=>rfl
  |some p=>
    obtain ⟨n',r''⟩:=p
    rw [hn] at hd
    simp only at hd ⊢
    split at hd
    ·cases hd
    ·rename_i hle;rw [if_neg hle]
set_option maxRecDepth 100000 in
set_option maxHeartbeats 3200000 in
theorem value_o (d:Nat) (c:UInt8) (r:List UInt8) (B:Nat) (w:World) (hr:Rd w B (c :: r)) (h1:¬ c.toNat=1) (h2:¬ c.toNat=2) (h3:¬ c.toNat=3) (dep:Int):
  Calls Tryz.prog 92 #[.pointer (some ⟨B,0,none⟩),.int .i64 dep] w (ValRd d (c :: r) B w):=by
 have HDV:=Lib.hid (decV_o d c r h1 h2 h3)
 have HN:Hid (∀ p w,Calls Tryz.prog 93 #[p,.bool false] w fun e w'=>e= .panicked codeP∧w=w'):=want_no
 obtain ⟨x,hx⟩:∃ x,c.toNat=x:=⟨_,rfl⟩
 have hxb:(x:Int) < 256:=by have:=c.toNat_lt;omega
 rw [hx] at h1 h2 h3
 have g1:((x:Int)==1)=false:=by simp;omega
 have g2:((x:Int)==2)=false:=by simp;omega
 have g3:((x:Int)==3)=false:=by simp;omega
 have HXE:=Lib.hid hx
 clear hx h1 h2 h3
 have hBl:=hr.lt
 have HR:=Lib.hid (hr.alloc (.cells #[.int .i64 0,.int .i64 0,.string ⟨#[]⟩,.slice none 0 0] 79))
 have hX:=Box4.new w (.int .i64 0) (.int .i64 0) (.string ⟨#[]⟩) (.slice none 0 0)
 have HX:=Lib.hid hX
 clear hr hX
 go_enter Tryz.func92,Tryz.ntmps92
 go_wp2_with fail
 refine (take_rd HR.out 1 (by simp)).mono ?_
 rintro e w1 ⟨a1,rfl,hby,_,hrd1,hgr1⟩
 obtain ⟨b1,off1,rfl,hc1⟩:=hby.resolve_left (by simp)
 have hc0:=hc1 0 (by simp)
 simp only [List.take_succ_cons,List.take_zero,List.getElem_cons_zero,Nat.add_zero,byteV,HXE.out] at hc0
 simp only [List.drop_succ_cons,List.drop_zero] at hrd1
 have hX1:=HX.out.kept hgr1 (by simp;omega)
 obtain ⟨x0,x1,x2,x3⟩:=hX1.cells
 obtain ⟨f0,f1,f2,f3⟩:=hX1.free
 have hat:=at1_of x hBl hgr1 hrd1
 have HAT:=Lib.hid hat
 clear hby hc1 hrd1 hX1 hat hgr1 HX HR
 go_wp2_with fail
 generalize w1.setCell ⟨w.heap.size,0,none⟩ (.int .i64 x)=W2 at *
 clear x0 x1 x2 x3 f0 f1 f2 f3 hc0
 with_reducible refine (HN.out _ _).mono ?_
 rintro e w3 ⟨rfl,rfl⟩
 exact ⟨rfl,HAT.out.by_,.inr ⟨HDV.out,rfl⟩⟩
set_option maxRecDepth 100000 in
set_option maxHeartbeats 3200000 in
theorem value_30 (c:UInt8) (r:List UInt8) (B:Nat) (w:World) (hr:Rd w B (c :: r)) (hx:c.toNat=3):
  Calls Tryz.prog 92 #[.pointer (some ⟨B,0,none⟩),.int .i64 16] w (ValRd 0 (c :: r) B w):=by
 have HDV:=Lib.hid (decV_30 c r hx)
 have HN:Hid (∀ p w,Calls Tryz.prog 93 #[p,.bool false] w fun e w'=>e= .panicked codeP∧w=w'):=want_no
 have HXE:=Lib.hid hx
 clear hx
 have hBl:=hr.lt
 have HR:=Lib.hid (hr.alloc (.cells #[.int .i64 0,.int .i64 0,.string ⟨#[]⟩,.slice none 0 0] 79))
 have hX:=Box4.new w (.int .i64 0) (.int .i64 0) (.string ⟨#[]⟩) (.slice none 0 0)
 have HX:=Lib.hid hX
 clear hr hX
 go_enter Tryz.func92,Tryz.ntmps92
 go_wp2_with fail
 refine (take_rd HR.out 1 (by simp)).mono ?_
 rintro e w1 ⟨a1,rfl,hby,_,hrd1,hgr1⟩
 obtain ⟨b1,off1,rfl,hc1⟩:=hby.resolve_left (by simp)
 have hc0:=hc1 0 (by simp)
 simp only [List.take_succ_cons,List.take_zero,List.getElem_cons_zero,Nat.add_zero,byteV,HXE.out] at hc0
 simp only [List.drop_succ_cons,List.drop_zero] at hrd1
 have hX1:=HX.out.kept hgr1 (by simp;omega)
 obtain ⟨x0,x1,x2,x3⟩:=hX1.cells
 obtain ⟨f0,f1,f2,f3⟩:=hX1.free
 have hat:=at1_of 3 hBl hgr1 hrd1
 have HAT:=Lib.hid hat
 clear hby hc1 hrd1 hX1 hat hgr1 HX HR
 go_wp2_with fail
 generalize w1.setCell ⟨w.heap.size,0,none⟩ (.int .i64 3)=W2 at *
 clear x0 x1 x2 x3 f0 f1 f2 f3 hc0
 with_reducible refine (HN.out _ _).mono ?_
 rintro e w3 ⟨rfl,rfl⟩
 exact ⟨rfl,HAT.out.by_,.inr ⟨HDV.out,rfl⟩⟩
set_option maxRecDepth 100000 in
set_option maxHeartbeats 3200000 in
theorem value_nil (d:Nat) (B:Nat) (w:World) (hr:Rd w B []) (dep:Int):
  Calls Tryz.prog 92 #[.pointer (some ⟨B,0,none⟩),.int .i64 dep] w (ValRd d [] B w):=by
 have HR:=Lib.hid (hr.alloc (.cells #[.int .i64 0,.int .i64 0,.string ⟨#[]⟩,.slice none 0 0] 79))
 clear hr
 go_enter Tryz.func92,Tryz.ntmps92
 go_wp2_with fail
 refine (take_rd_no HR.out 1 (by simp)).mono ?_
 rintro e w1 ⟨rfl,rfl⟩
 exact ⟨rfl,World.grownBy_alloc _ _ _,.inr ⟨decV_nil d,rfl⟩⟩
end Go.Proofs.YthidfoohhhkobaaGreat.Cd

namespace Go.Proofs.YthidfoohhhkobaaGreat.Cd
set_option linter.unusedSimpArgs false
set_option linter.unusedVariables false
open Go.RowKit
attribute [local go_sem ↓] Go.wp_at_zero Go.wp_at_succ
theorem infoV:(Tryz.prog.info? 79).map (fun i=>(i.zero,i.size,i.bytes))=some (some (.agg #[.int .i64 0,.int .i64 0,.string ⟨#[]⟩,.slice none 0 0]),4,56):=by kernel_rfl
theorem elemV:Elem Tryz.prog 76 79 (.agg #[.int .i64 0,.int .i64 0,.string ⟨#[]⟩,.slice none 0 0]) 4 56:=⟨Tryz.underlying76,infoV,rfl,by decide,fun h=>by cases h⟩
theorem decL_go {f:List UInt8→Option (V×List UInt8)}:∀ (k n:Nat) (r rs:List UInt8) (l:List V),decL f k r=some (l,rs)→decL f (k+n) r=(decL f n rs).map fun p=>(l++p.1,p.2)
 |0,n,r,rs,l,h=>by
   simp only [decL,Option.some.injEq,Prod.mk.injEq] at h
   obtain ⟨rfl,rfl⟩:=h
   rw [Nat.zero_add]
   cases decL f n r with
   |none=>rfl
   |some p=>rfl
 |k+1,n,r,rs,l,h=>by
   rw [Nat.succ_add]
   simp only [decL] at h ⊢
   cases hf:f r with
   |none=>rw [hf] at h;cases h
   |some p=>
     obtain ⟨v,r1⟩:=p
     rw [hf] at h
     simp only at h ⊢
     cases hd:decL f k r1 with
     |none=>rw [hd] at h;cases h
     |some q=>
       obtain ⟨l',r2⟩:=q
       rw [hd] at h
       simp only [Option.some.injEq,Prod.mk.injEq] at h
       obtain ⟨rfl,rfl⟩:=h
       rw [decL_go k n r1 r2 l' hd]
       cases decL f n r2 with
       |none=>rfl
       |some p=>rfl
theorem decL_one {f:List UInt8→Option (V×List UInt8)} {k:Nat} {r rs r':List UInt8} {l:List V} {v:V} (h:decL f k r=some (l,rs)) (hv:f rs=some (v,r')):decL f (k+1) r=some (l++[v],r'):=by
 rw [decL_go k 1 r rs l h]
 simp [decL,hv]
theorem decL_none {f:List UInt8→Option (V×List UInt8)} {k n:Nat} {r rs:List UInt8} {l:List V} (h:decL f k r=some (l,rs)) (hv:f rs=none) (hn:k < n):decL f n r=none:=by
 obtain ⟨m,rfl⟩:∃ m,n=k+(m+1):=⟨n - k - 1,by omega⟩
 rw [decL_go k (m+1) r rs l h]
 simp [decL,hv]
theorem decList_of {f:List UInt8→Option (V×List UInt8)} {r r1:List UInt8} {n:Nat} (h:decLen r=some (n,r1)):decList f r=(decL f n r1).map fun p=>(.mk 3 0 [] p.1,p.2):=by
 unfold decLen at h
 unfold decList
 cases hd:decNum r with
 |none=>rw [hd] at h;cases h
 |some p=>
   obtain ⟨n',r''⟩:=p
   rw [hd] at h
   simp only at h ⊢
   split at h
   ·rename_i hle
    simp only [Option.some.injEq,Prod.mk.injEq] at h
    obtain ⟨rfl,rfl⟩:=h
    rw [if_pos hle]
    cases decL f n' r'' with
    |none=>rfl
    |some p=>rfl
   ·cases h
theorem decList_none {f:List UInt8→Option (V×List UInt8)} {r:List UInt8} (h:decLen r=none):decList f r=none:=by
 unfold decLen at h
 unfold decList
 cases hd:decNum r with
 |none=>rfl
 |some p=>
   obtain ⟨n',r''⟩:=p
   rw [hd] at h
   simp only at h ⊢
   split at h
   ·cases h
   ·rename_i hle;rw [if_neg hle]
structure Lst (d:Nat) (w:World) (B:Nat) (r1:List UInt8) (k:Nat) (l:List V) (rs:List UInt8) (a:Option Addr) (cap:Nat) (xs:List Value) (wr:World):Prop where
 len:l.length=k
 dec:decL (decV d) k r1=some (l,rs)
 own:wr.ownsRow (w.heap.size+1) 79 4 (.slice a k cap) k xs
 cells:CellsL (fun b=>w.heap.size+1≤b∧b < wr.heap.size∧(Value.slice a k cap).ownBlock≠some b) wr l xs
 box:Box4 wr w.heap.size (.int .i64 3) (.int .i64 0) (.string ⟨#[]⟩) (.slice a k cap)
 rd:Rd wr B rs
 by_:w.grownBy wr (some B)
 lt:w.heap.size < wr.heap.size
 le:rs.length≤r1.length
theorem own_keptB {wr w4:World} {base B:Nat} {e:TypeId} {size n:Nat} {v:Value} {xs:List Value} (h:wr.ownsRow base e size v n xs) (hB:B < base) (hg:wr.drew.grownBy w4 (some B)):w4.ownsRow base e size v n xs:=
 h.drew.kept hg (by
  cases hv:v.ownBlock with
  |none=>exact .inl rfl
  |some g=>right;intro e;injection e with e;have:=(h.lt g hv).1;omega)
theorem one4 (k0 n0:Int) (s0:ByteArray) (a0:Option Addr) (len0 cap0:Nat):∀ u∈[Value.int .i64 k0,.int .i64 n0,.string s0,.slice a0 len0 cap0],u.oneCell'=true:=by
 intro u hu
 simp only [List.mem_cons,List.not_mem_nil,or_false] at hu
 rcases hu with rfl|rfl|rfl|rfl<;>rfl
theorem box_grew {W w5:World} {X:Nat} {o:Obj} {c0 c1 c2 c3 v v5:Value} {n:Nat} {xs:List Value} (h:Box4 W X c0 c1 c2 c3) (hg:Grew (X+1) 79 4 (W.alloc o) v v5 n xs w5) (hv:∀ g,v.ownBlock=some g→X+1≤g):Box4 w5 X c0 c1 c2 c3:=by
 have hX:X < W.heap.size:=(Array.getElem?_eq_some_iff.1 h).1
 have h1:Box4 (W.alloc o) X c0 c1 c2 c3:=(Below.heap_alloc W o X hX).trans h
 exact (hg.other (by rw [size_a1];omega) (fun e=>by have:=hv X e;omega)).trans h1
theorem setCell_other (W:World) (X o:Nat) (u:Value) (b:Nat) (h:b≠X):(W.setCell ⟨X,o,none⟩ u).heap[b]? =W.heap[b]?:=Below.heap_setCell W ⟨X,o,none⟩ u b h
theorem size_set (W:World) (a:Addr) (u:Value):(W.setCell a u).heap.size=W.heap.size:=by simp [World.setCell]
theorem Lst.step {d:Nat} {w:World} {B:Nat} {r1:List UInt8} {k:Nat} {l:List V} {rs r':List UInt8} {a:Option Addr} {cap:Nat} {xs:List Value} {wr w4 w5:World} {v:V} {c0 c1 c2 c3:Value} {g5 cap5:Nat}
  (h:Lst d w B r1 k l rs a cap xs wr) (hB:B < w.heap.size) (hdec:decL (decV d) (k+1) r1=some (l++[v],r')) (hle:r'.length≤rs.length)
  (hrep:RepF (fun b=>wr.drew.heap.size≤b∧b < w4.heap.size) w4 v (.agg #[c0,c1,c2,c3])) (hrd:Rd w4 B r') (hg4:wr.drew.grownBy w4 (some B))
  (hg5:Grew (w.heap.size+1) 79 4 (w4.alloc (.cells #[c0,c1,c2,c3] 79)) (.slice a k cap) (.slice (some ⟨g5,0,none⟩) (k+1) cap5) (k+1) (xs++[c0,c1,c2,c3]) w5)
  (hX5:Box4 w5 w.heap.size (.int .i64 3) (.int .i64 0) (.string ⟨#[]⟩) (.slice a k cap)):
  Lst d w B r1 (k+1) (l++[v]) r' (some ⟨g5,0,none⟩) cap5 (xs++[c0,c1,c2,c3]) (w5.setCell ⟨w.heap.size,3,none⟩ (.slice (some ⟨g5,0,none⟩) (k+1) cap5)):=by
 have hs4:wr.heap.size≤w4.heap.size:=hg4.size
 have hs5:=hg5.by_.size
 rw [size_a1] at hs5
 have hlt:=h.lt
 have hown:∀ g,(Value.slice a k cap).ownBlock=some g→w.heap.size+1≤g∧g < wr.heap.size:=fun g hg=>h.own.lt g hg
 have hnew:=hg5.new g5 rfl
 rw [size_a1] at hnew
 have kept:∀ b,w.heap.size+1≤b→b < w4.heap.size→(Value.slice a k cap).ownBlock≠some b→(w5.setCell ⟨w.heap.size,3,none⟩ (.slice (some ⟨g5,0,none⟩) (k+1) cap5)).heap[b]? =w4.heap[b]?:=by
  intro b h1 h2 h3
  rw [setCell_other _ _ _ _ _ (by omega),hg5.other (by rw [size_a1];omega) h3,Below.heap_alloc _ _ _ h2]
 have keptB:∀ b,b≤B→(w5.setCell ⟨w.heap.size,3,none⟩ (.slice (some ⟨g5,0,none⟩) (k+1) cap5)).heap[b]? =w4.heap[b]?:=by
  intro b h1
  rw [setCell_other _ _ _ _ _ (by omega),hg5.other (by rw [size_a1];omega) (fun e=>by have:=(hown b e).1;omega),Below.heap_alloc _ _ _ (by omega)]
 refine ⟨by simp [h.len],hdec,ownsRow_setCell_below hg5.own (a:=⟨w.heap.size,3,none⟩) (by show w.heap.size < w.heap.size+1;omega) _,?_,hX5.set3 _,hrd.keep keptB,?_,by rw [size_set];omega,Nat.le_trans hle h.le⟩
 ·refine CellsL.snoc ?_ (h.cells.keep ?_ ?_)
  ·refine hrep.keep ?_ ?_
   ·rintro b ⟨h1,h2⟩
    have h1':wr.heap.size≤b:=h1
    refine ⟨by omega,by rw [size_set];omega,?_⟩
    intro e
    have e':g5=b:=by injection e
    rcases hnew with h3|h3
    ·omega
    ·have:=(hown g5 h3).2;omega
   ·rintro b ⟨h1,h2⟩
    have h1':wr.heap.size≤b:=h1
    exact kept b (by omega) h2 (fun e=>by have:=(hown b e).2;omega)
  ·rintro b ⟨h1,h2,h3⟩
   refine ⟨h1,by rw [size_set];omega,?_⟩
   intro e
   have e':g5=b:=by injection e
   rcases hnew with h4|h4
   ·omega
   ·exact h3 (e' ▸ h4)
  ·rintro b ⟨h1,h2,h3⟩
   rw [kept b h1 (by omega) h3]
   exact hg4.block b h2 (by simp;omega)
 ·have h1:w.grownBy w4 (some B):=h.by_.andThen (⟨hg4.os,hg4.tape,hg4.output,hg4.size,hg4.block⟩:wr.grownBy w4 (some B)) (fun j hj=> .inr hj)
  have h2:=h1.andThen (World.grownBy_alloc w4 (.cells #[c0,c1,c2,c3] 79) none) (fun j hj=>by cases hj)
  have h3:=h2.andThen hg5.by_ (fun j hj=> .inl (by have:=(hown j hj).1;omega))
  exact grownBy_set h3 _ _ _ (Nat.le_refl _)
theorem Lst.done {d:Nat} {w:World} {B:Nat} {r1:List UInt8} {k:Nat} {l:List V} {rs:List UInt8} {a:Option Addr} {cap:Nat} {xs:List Value} {wr w':World}
  (h:Lst d w B r1 k l rs a cap xs wr) (hk:k≤1000000) (hs:wr.heap.size≤w'.heap.size) (hb:∀ b,w.heap.size < b→b < wr.heap.size→w'.heap[b]? =wr.heap[b]?):
  RepF (fun b=>w.heap.size≤b∧b < w'.heap.size) w' (.mk 3 0 [] l) (.agg #[.int .i64 3,.int .i64 0,.string ⟨#[]⟩,.slice a k cap]):=by
 have ho:=h.own
 have hl:=h.len
 subst hl
 obtain ⟨h1,h2⟩:=own_repFL (G:=fun b=>w.heap.size < b∧b < wr.heap.size) ho h.cells (fun g h1 h2=>⟨by omega,h2⟩) (fun b ⟨h1,h2,_⟩=>⟨by omega,h2⟩)
 simp only [RepF]
 refine ⟨a,cap,rfl,by unfold i64R;omega,by unfold i64R;omega,by simp,h2,by omega,?_⟩
 exact h1.keep (fun b ⟨h3,h4⟩=>⟨by omega,by omega⟩) (fun b ⟨h3,h4⟩=>hb b h3 h4)
set_option maxRecDepth 100000 in
set_option maxHeartbeats 3200000 in
theorem value_3 (d:Nat) (c:UInt8) (r:List UInt8) (B:Nat) (w:World) (hr:Rd w B (c :: r)) (hx:c.toNat=3) (dep:Int) (hdep:0≤dep) (hdep2:dep < 16)
  (ih:∀ bs w,Rd w B bs→Calls Tryz.prog 92 #[.pointer (some ⟨B,0,none⟩),.int .i64 (dep+1)] w (ValRd d bs B w)):
  Calls Tryz.prog 92 #[.pointer (some ⟨B,0,none⟩),.int .i64 dep] w (ValRd (d+1) (c :: r) B w):=by
 have HDV:=Lib.hid (decV_3 d c r hx)
 have HW:Hid (∀ p w,Calls Tryz.prog 93 #[p,.bool true] w fun e w'=>e= .returned (.tuple #[])∧w=w'):=want_yes
 have IH:=Lib.hid ih
 have HXE:=Lib.hid hx
 clear hx ih
 have hBl:=hr.lt
 have HR:=Lib.hid (hr.alloc (.cells #[.int .i64 0,.int .i64 0,.string ⟨#[]⟩,.slice none 0 0] 79))
 have hX:=Box4.new w (.int .i64 0) (.int .i64 0) (.string ⟨#[]⟩) (.slice none 0 0)
 have HX:=Lib.hid hX
 clear hr hX
 go_enter Tryz.func92,Tryz.ntmps92
 go_wp2_with fail
 refine (take_rd HR.out 1 (by simp)).mono ?_
 rintro e w1 ⟨a1,rfl,hby,_,hrd1,hgr1⟩
 obtain ⟨b1,off1,rfl,hc1⟩:=hby.resolve_left (by simp)
 have hc0:=hc1 0 (by simp)
 simp only [List.take_succ_cons,List.take_zero,List.getElem_cons_zero,Nat.add_zero,byteV,HXE.out] at hc0
 simp only [List.drop_succ_cons,List.drop_zero] at hrd1
 have hX1:=HX.out.kept hgr1 (by simp;omega)
 obtain ⟨x0,x1,x2,x3⟩:=hX1.cells
 obtain ⟨f0,f1,f2,f3⟩:=hX1.free
 have hat:=at1_of 3 hBl hgr1 hrd1
 have HAT:=Lib.hid hat
 clear hby hc1 hrd1 hX1 hat hgr1 HX HR
 go_wp2_with fail
 generalize w1.setCell ⟨w.heap.size,0,none⟩ (.int .i64 3)=W2 at *
 clear x0 x1 x2 x3 f0 f1 f2 f3 hc0
 with_reducible refine (HW.out _ _).mono ?_
 rintro e w3 ⟨rfl,rfl⟩
 go_wp2_with fail
 refine (length_any r B W2 HAT.out.rd).mono ?_
 rintro e w3 ⟨hg3,⟨n,r1,hd,hn,hrb,rfl,hrd3⟩|⟨hd,rfl⟩⟩
 ·have hX3:=HAT.out.box.kept hg3 (by simp;omega)
  have hlt3:w.heap.size < w3.heap.size:=Nat.lt_of_lt_of_le HAT.out.lt hg3.size
  have hst:Lst d w B r1 0 [] r1 none 0 [] w3:=⟨rfl,rfl,World.ownsRow_nil _ _ _ _,rfl,hX3,hrd3,HAT.out.by_.andThen hg3 (fun j hj=> .inr hj),hlt3,Nat.le_refl _⟩
  have HST:=Lib.hid hst
  have HD:=Lib.hid (decList_of (f:=decV d) hd)
  have hrl:=hrd3.len
  clear hX3 hrd3 hd hg3 hst
  go_wp2
  go_loopw [37] (fun i wr=>∃ (k:Nat) (l:List V) (rs:List UInt8) (a:Option Addr) (cap:Nat) (xs:List Value),k≤n∧i= .int .i64 k∧Lst d w B r1 k l rs a cap xs wr) (fun i _=>n - (intOf i).toNat)
  case atStart=>exact ⟨0,[],r1,none,0,[],Nat.zero_le _,rfl,HST.out⟩
  case round=>
   obtain ⟨k,l,rs,a,cap,xs,hk,rfl,hs⟩:=hrel
   have HS:=Lib.hid hs
   obtain ⟨x0,x1,x2,x3⟩:=hs.box.cells
   obtain ⟨f0,f1,f2,f3⟩:=hs.box.free
   have hltr:=hs.lt
   clear hs
   by_cases hlt:k < n
   ·have kw:IntKind.i64.wrap (dep+1)=dep+1:=IntWalk.i64_in _ (by omega)
    have HRDd:Hid (Rd wr.drew B rs):=HS.out.rd
    have HBXd:Hid (Box4 wr.drew w.heap.size (.int .i64 3) (.int .i64 0) (.string ⟨#[]⟩) (.slice a k cap)):=HS.out.box
    have HBYd:Hid (w.grownBy wr.drew (some B)):=⟨HS.out.by_.os,HS.out.by_.tape,HS.out.by_.output,HS.out.by_.size,HS.out.by_.block⟩
    have hXB:some w.heap.size≠some B:=by simp;omega
    have hov:∀ g,(Value.slice a k cap).ownBlock=some g→w.heap.size+1≤g:=fun g hg=>(HS.out.own.lt g hg).1
    cases hdv:decV d rs with
    |none=>
      have HP:Hid (∀ W,Rd W B rs→Calls Tryz.prog 92 #[.pointer (some ⟨B,0,none⟩),.int .i64 (dep+1)] W fun e w'=>e= .panicked codeP∧W.grownBy w' (some B)):=fun W h=>(IH.out rs W h).mono (by
       rintro e w' ⟨h1,⟨v,r,c,h2,_⟩|⟨_,rfl⟩⟩
       ·rw [hdv] at h2;cases h2
       ·exact ⟨rfl,h1⟩)
      have HDN:=Lib.hid (decL_none HS.out.dec hdv hlt)
      clear hdv
      go_wp2_with fail
      refine wp_region_any (by kernel_rfl) ?_
      refine wpAny_take (i:=0) (v:=?_) rfl (by kernel_rfl) (by kernel_rfl) (by kernel_rfl) (fun _ _ _ h=>h) (Or.inl ⟨by rfl,?_⟩) ?_
      rotate_left
      ·intro w;go_simp;with_reducible rfl
      refine wpAny_take (i:=2) (v:=?_) rfl (by kernel_rfl) (by kernel_rfl) (by kernel_rfl) (fun _ _ _ h=>h) (Or.inl ⟨by rfl,?_⟩) ?_
      rotate_left
      ·intro w;go_simp;with_reducible rfl
      refine wpAny_take (i:=3) (v:=?_) rfl (by kernel_rfl) (by kernel_rfl) (by kernel_rfl) (fun _ _ _ h=>h) (Or.inl ⟨by rfl,?_⟩) ?_
      rotate_left
      ·intro w;go_simp;with_reducible rfl
      refine wpAny_take (i:=4) (v:=?_) rfl (by kernel_rfl) (by kernel_rfl) (by kernel_rfl) (fun _ _ _ h=>h) (Or.inl ⟨by rfl,?_⟩) ?_
      rotate_left
      ·intro w;go_simp;with_reducible rfl
      refine wpAny_ready (rs:=[1,5]) (by kernel_rfl) (by simp) ?_
      refine AllReady.cons rfl (fun K hK=>?_) (AllReady.cons rfl (fun K hK=>?_) AllReady.nil)
      ·go_simp
       refine hK _ _ ?_
       clear hK K
       refine wpAny_ready (rs:=[5]) (by kernel_rfl) (by simp) ?_
       refine AllReady.cons rfl (fun K hK=>?_) AllReady.nil
       go_simp
       ((with_reducible refine (HP.out _ HRDd.out).mono ?_))
       rintro e w4 ⟨rfl,hg4⟩
       exact ⟨rfl,HBYd.out.andThen hg4 (fun j hj=> .inr hj),.inr ⟨by rw [HDV.out,HD.out,HDN.out];rfl,rfl⟩⟩
      ·go_simp
       ((with_reducible refine (HP.out _ HRDd.out).mono ?_))
       rintro e w4 ⟨rfl,hg4⟩
       exact ⟨rfl,HBYd.out.andThen hg4 (fun j hj=> .inr hj),.inr ⟨by rw [HDV.out,HD.out,HDN.out];rfl,rfl⟩⟩
    |some p=>
      obtain ⟨v,r'⟩:=p
      have HQ:Hid (∀ W,Rd W B rs→Calls Tryz.prog 92 #[.pointer (some ⟨B,0,none⟩),.int .i64 (dep+1)] W fun e w'=>∃ c,e= .returned c∧r'.length≤rs.length∧RepF (fun b=>W.heap.size≤b∧b < w'.heap.size) w' v c∧Rd w' B r'∧W.grownBy w' (some B)):=fun W h=>(IH.out rs W h).mono (by
       rintro e w' ⟨h1,⟨v,r,c,h2,h2',rfl,h3,h4⟩|⟨h2,_⟩⟩
       ·rw [hdv] at h2;cases h2;exact ⟨c,rfl,h2',h3,h4,h1⟩
       ·rw [hdv] at h2;cases h2)
      have K3:=Lib.hid (maxLen_le (n:=k+1) (by omega))
      have K4:=Lib.hid (show (k+1) * 56≤140737488355328 by omega)
      have HDO:=Lib.hid (decL_one HS.out.dec hdv)
      clear hdv
      go_wp2_with fail
      go_region_law (first
       |(go_simp;go_at_call 92;((with_reducible refine (HQ.out _ HRDd.out).mono ?_));rintro e w4 ⟨cc,rfl,hle4,hrep4,hrd4,hg4⟩;obtain ⟨k0,n0,s0,a0,len0,cap0,rfl⟩:=hrep4.form;have hX4:=HBXd.out.kept hg4 hXB;obtain ⟨y0,y1,y2,y3⟩:=hX4.cells;have HO4:=Lib.hid (own_keptB HS.out.own (by omega) hg4);have hsz4:w.heap.size+1≤w4.heap.size:=Nat.le_trans hltr hg4.size;have hsz4x:w.heap.size < w4.heap.size:=hsz4)
       |(refine step_app (by rfl) _ _ (by rfl) elemV (w.heap.size+1) (.slice a k cap) k xs (by rfl) (HO4.out.alloc _) (.slice (some ⟨w4.heap.size,0,none⟩) 1 1) 1 [.int .i64 k0,.int .i64 n0,.string s0,.slice a0 len0 cap0] (by rfl) (Source.cells _ _ _ _ rfl rfl (World.news_of_block (cs:= #[.int .i64 k0,.int .i64 n0,.string s0,.slice a0 len0 cap0]) (t:=79) (fr:=(0,0)) (heap_alloc_new w4 _)) (one4 _ _ _ _ _ _)) (.inl rfl) K3.out K4.out (le_alloc hsz4 _) ?_;intro v5 w5 hg5;have hX5:=box_grew hX4 hg5 hov;obtain ⟨z0,z1,z2,z3⟩:=hX5.cells;obtain ⟨zf0,zf1,zf2,zf3⟩:=hX5.free;obtain ⟨g5,cap5,rfl,hg51,hg52⟩:=hg5.own.form (Nat.succ_pos _)))
      all_goals
       go_wp2
       go_roundw
       case rel=>exact ⟨k+1,l++[v],r',some ⟨g5,0,none⟩,cap5,_,by omega,by go_num,HS.out.step hBl HDO.out hle4 hrep4 hrd4 hg4 hg5 hX5⟩
       case measure=>simp [intOf];omega
   ·go_wp2
    have hkn:k=n:=by omega
    refine bodyPost_ret (v:= .agg #[.int .i64 3,.int .i64 0,.string ⟨#[]⟩,.slice a k cap]) (by simp [results,Tryz.results92,go_sem,x0,x1,x2,x3]) rfl ?_
    have hdv:decV (d+1) (c :: r)=some (.mk 3 0 [] l,rs):=by
     rw [HDV.out,HD.out,← hkn,HS.out.dec];rfl
    have hle:=HS.out.le
    refine ⟨?_,.inl ⟨_,rs,_,hdv,by simp;omega,rfl,HS.out.done (by omega) (by simp [World.setCell]) (fun b h1 h2=>by repeat (rw [setCell_other _ _ _ _ _ (by omega)])),?_⟩⟩
    ·repeat (refine grownBy_set ?_ _ _ _ (Nat.le_refl _))
     exact HS.out.by_
    ·exact (((HS.out.rd.set _ _ _ hBl).set _ _ _ hBl).set _ _ _ hBl).set _ _ _ hBl
 ·exact ⟨rfl,HAT.out.by_.andThen hg3 (fun j hj=> .inr hj),.inr ⟨by rw [HDV.out,decList_none hd],rfl⟩⟩
theorem value_any (B:Nat):∀ (d:Nat),d≤16→∀ (bs:List UInt8) (w:World),Rd w B bs→Calls Tryz.prog 92 #[.pointer (some ⟨B,0,none⟩),.int .i64 (16 - d)] w (ValRd d bs B w):=by
 intro d
 induction d with
 |zero=>
   intro _ bs w hr
   cases bs with
   |nil=>exact value_nil 0 B w hr _
   |cons c r=>
     by_cases h1:c.toNat=1
     ·exact value_1 0 c r B w hr h1 _
     ·by_cases h2:c.toNat=2
      ·exact value_2 0 c r B w hr h2 _
      ·by_cases h3:c.toNat=3
       ·exact value_30 c r B w hr h3
       ·exact value_o 0 c r B w hr h1 h2 h3 _
 |succ d ih=>
   intro hd bs w hr
   cases bs with
   |nil=>exact value_nil _ B w hr _
   |cons c r=>
     by_cases h1:c.toNat=1
     ·exact value_1 _ c r B w hr h1 _
     ·by_cases h2:c.toNat=2
      ·exact value_2 _ c r B w hr h2 _
      ·by_cases h3:c.toNat=3
       ·refine value_3 d c r B w hr h3 _ (by omega) (by omega) fun bs w h=>?_
        have e:(16 - ((d+1:Nat):Int))+1=16 - (d:Int):=by omega
        rw [e]
        exact ih (by omega) bs w h
       ·exact value_o _ c r B w hr h1 h2 h3 _
end Go.Proofs.YthidfoohhhkobaaGreat.Cd

namespace Go.Proofs.YthidfoohhhkobaaGreat.Cd
set_option linter.unusedSimpArgs false
set_option linter.unusedVariables false
open Go.RowKit
def Cell1 (w:World) (Y:Nat) (v:Value):Prop:=w.heap[Y]? =some (.cells #[v] 41 (0,0))
theorem Cell1.cell {w:World} {Y:Nat} {v:Value} (h:Cell1 w Y v):w.cell? ⟨Y,0,none⟩=some v:=cell_of h
theorem Cell1.free {w:World} {Y:Nat} {v:Value} (h:Cell1 w Y v):w.frozen? ⟨Y,0,none⟩=false:=by unfold Cell1 at h;simp [World.frozen?,h]
set_option maxRecDepth 100000 in
set_option maxHeartbeats 1000000 in
theorem catch_idle (pv pe:Value) (w:World):
  CallsD Tryz.prog 91 #[pv,pe] .returning w fun e u' w'=>e= .returned (.tuple #[])∧u'= .returning∧w'=w:=by
 refine callsD_of_wpS Tryz.func91 rfl fun c₀ cs hu=>?_
 apply wpS_seq
 apply wpS_region
 simp [wpOpsS,go_sem,recoverD,hu,Tryz.ntmps91,Exit.thenS]
 apply wpS_seq
 apply wpS_region
 simp [wpOpsS,go_sem,Exit.thenS]
 refine wpS_cond (t:=false) (by simp [Act.eval,Array.replicate]) ?_
 simp only [Bool.false_eq_true,if_false]
 refine wpS_of_wp (wp_skip ?_)
 cases c₀
 simp_all [bodyPostS,results,Tryz.results91]
theorem catch_world {X Y:Nat} {c0 c1 c2 c3 ev:Value} {w:World} (hX:Box4 w X c0 c1 c2 c3) (hY:Cell1 w Y ev) (hne:X≠Y) {W:World}
  (hW:W=(((((w.setCell ⟨X,0,none⟩ (.int .i64 0)).setCell ⟨X,1,none⟩ (.int .i64 0)).setCell ⟨X,2,none⟩ (.string ⟨#[]⟩)).setCell ⟨X,3,none⟩ (.slice none 0 0)).setCell ⟨Y,0,none⟩ (.int .i64 10)):=by rfl):
  Box4 W.drew X (.int .i64 0) (.int .i64 0) (.string ⟨#[]⟩) (.slice none 0 0)∧Cell1 W.drew Y (.int .i64 10)∧W.drew.os=w.os∧W.drew.tape=w.tape∧W.drew.output=w.output∧W.drew.heap.size=w.heap.size∧∀ b,¬ b=X→¬ b=Y→W.drew.heap[b]? =w.heap[b]?:=by
 have hne':¬ Y=X:=fun e=>hne e.symm
 have hX4:=(((hX.set0 (.int .i64 0)).set1 (.int .i64 0)).set2 (.string ⟨#[]⟩)).set3 (.slice none 0 0)
 have hY4:Cell1 ((((w.setCell ⟨X,0,none⟩ (.int .i64 0)).setCell ⟨X,1,none⟩ (.int .i64 0)).setCell ⟨X,2,none⟩ (.string ⟨#[]⟩)).setCell ⟨X,3,none⟩ (.slice none 0 0)) Y ev:=by
  unfold Cell1
  rw [setCell_other _ _ _ _ _ hne',setCell_other _ _ _ _ _ hne',setCell_other _ _ _ _ _ hne',setCell_other _ _ _ _ _ hne']
  exact hY
 have hX5:=(setCell_other _ Y 0 (.int .i64 10) X hne).trans hX4
 have hY5:=heap_setCell1 (u:= .int .i64 10) hY4
 rw [← hW] at hX5 hY5
 have h5:∀ b,¬ b=X→¬ b=Y→W.heap[b]? =w.heap[b]?:=by
  intro b h1 h2
  rw [hW,setCell_other _ _ _ _ _ h2,setCell_other _ _ _ _ _ h1,setCell_other _ _ _ _ _ h1,setCell_other _ _ _ _ _ h1,setCell_other _ _ _ _ _ h1]
 have g1:W.os=w.os:=by rw [hW];simp only [World.setCell]
 have g2:W.tape=w.tape:=by rw [hW];simp only [World.setCell]
 have g3:W.output=w.output:=by rw [hW];simp only [World.setCell]
 have g4:W.heap.size=w.heap.size:=by rw [hW];simp [World.setCell]
 exact ⟨hX5,hY5,g1,g2,g3,g4,h5⟩
theorem typeAssert_code:∀ w,(Instr.typeAssert (.iface 41 (.int .i64 10)) 20 41 false).run Tryz.prog w= .ok (.int .i64 10) w:=fun _=>by kernel_rfl
set_option maxRecDepth 100000 in
set_option maxHeartbeats 1000000 in
theorem catch_code (X Y:Nat) (c0 c1 c2 c3 ev:Value) (w:World) (hX:Box4 w X c0 c1 c2 c3) (hY:Cell1 w Y ev) (hne:X≠Y):
  CallsD Tryz.prog 91 #[.pointer (some ⟨X,0,none⟩),.pointer (some ⟨Y,0,none⟩)] (.panicking ({ v:= .iface 41 (.int .i64 10),recovered:=false } :: [])) w fun e u' w'=>
   e= .returned (.tuple #[])∧u'= .panicking ({ v:= .iface 41 (.int .i64 10),recovered:=true } :: [])∧Box4 w' X (.int .i64 0) (.int .i64 0) (.string ⟨#[]⟩) (.slice none 0 0)∧Cell1 w' Y (.int .i64 10)∧(w'.os=w.os∧w'.tape=w.tape∧w'.output=w.output∧w'.heap.size=w.heap.size∧∀ b,b≠X→b≠Y→w'.heap[b]? =w.heap[b]?):=by
 refine callsD_of_wpS Tryz.func91 rfl fun c₀ cs hu=>?_
 apply wpS_seq
 apply wpS_region
 simp [wpOpsS,go_sem,recoverD,hu,Tryz.ntmps91,Exit.thenS]
 apply wpS_seq
 apply wpS_region
 simp [wpOpsS,go_sem,Exit.thenS]
 refine wpS_cond (t:=true) (by simp [Act.eval,Array.replicate]) ?_
 simp only [if_true]
 refine wpS_of_wp ?_
 simp only [Array.replicate_succ,Array.replicate_zero,List.push_toArray,List.append_toArray,List.nil_append,List.cons_append,List.setIfInBounds_toArray,List.set_cons_zero,List.set_cons_succ]
 obtain ⟨x0,x1,x2,x3⟩:=hX.cells
 obtain ⟨f0,f1,f2,f3⟩:=hX.free
 have y0:=hY.cell
 have yf:=hY.free
 have hne':¬ Y=X:=fun e=>hne e.symm
 have hta:=typeAssert_code
 go_region
 obtain ⟨hX5,hY5,e1,e2,e3,e4,e5⟩:=catch_world hX hY hne
 generalize (((((w.setCell ⟨X,0,none⟩ (.int .i64 0)).setCell ⟨X,1,none⟩ (.int .i64 0)).setCell ⟨X,2,none⟩ (.string ⟨#[]⟩)).setCell ⟨X,3,none⟩ (.slice none 0 0)).setCell ⟨Y,0,none⟩ (.int .i64 10))=W5 at *
 show bodyPostS _ _ _ _ _ _ _ _ _
 refine ⟨rfl,.panicking [{ v:= .iface 41 (.int .i64 10),recovered:=true }],rfl,.tuple #[],by simp [results,Tryz.results91],?_⟩
 exact ⟨rfl,rfl,hX5,hY5,e1,e2,e3,e4,e5⟩
def V.zero:V:= .mk 0 0 [] []
def DecPost (bs:List UInt8) (w:World) (e:Ending) (w':World):Prop:=
 ∃ c,e= .returned (.tuple #[c,.int .i64 (if (dec bs).isSome then 0 else 10)])∧RepF (fun b=>w.heap.size≤b∧b < w'.heap.size) w' ((dec bs).getD V.zero) c∧Below w.heap.size w w'
theorem repV_zero (F:Nat→Prop) (w:World):RepF F w V.zero (.agg #[.int .i64 0,.int .i64 0,.string ⟨#[]⟩,.slice none 0 0]):=by
 unfold V.zero
 simp only [RepF,List.length_nil]
 exact ⟨none,0,rfl,by unfold i64R;omega,by unfold i64R;omega,by omega,by omega,by omega,by simp only [RepFL]⟩
structure Dec0 (w:World) (bs:List UInt8) (W:World):Prop where
 rd:Rd W (w.heap.size+1+1) bs
 box:Box4 W w.heap.size (.int .i64 0) (.int .i64 0) (.string ⟨#[]⟩) (.slice none 0 0)
 code:Cell1 W (w.heap.size+1) (.int .i64 0)
 by_:Below w.heap.size w W
theorem dec0_of {w:World} {bs:List UInt8} {a:Option Addr} {cap:Nat} (hl:bs.length≤cap) (hl2:bs.length≤1000000) (hby:Bytes w a bs) (hlt:∀ ad,a=some ad→ad.block < w.heap.size):
  Dec0 w bs (((w.alloc (.cells #[.int .i64 0,.int .i64 0,.string ⟨#[]⟩,.slice none 0 0] 79)).alloc (.cells #[.int .i64 0] 41)).alloc (.cells #[.slice a bs.length cap] 133)):=by
 have hb:Below w.heap.size w (((w.alloc (.cells #[.int .i64 0,.int .i64 0,.string ⟨#[]⟩,.slice none 0 0] 79)).alloc (.cells #[.int .i64 0] 41)).alloc (.cells #[.slice a bs.length cap] 133)):=
  (((Below.refl _ _).alloc (Nat.le_refl _) _).alloc (by simp) _).alloc (by simp;omega) _
 refine ⟨⟨a,cap,?_,hl,hl2,hby.below hb,fun ad h=>by have:=hlt ad h;omega⟩,?_,?_,hb⟩
 ·have:=heap_alloc_new ((w.alloc (.cells #[.int .i64 0,.int .i64 0,.string ⟨#[]⟩,.slice none 0 0] 79)).alloc (.cells #[.int .i64 0] 41)) (.cells #[.slice a bs.length cap] 133)
  rw [size_a1,size_a1] at this
  exact this
 ·unfold Box4
  rw [Below.heap_alloc _ _ _ (by rw [size_a1,size_a1];omega),Below.heap_alloc _ _ _ (by rw [size_a1];omega)]
  exact heap_alloc_new w _
 ·unfold Cell1
  rw [Below.heap_alloc _ _ _ (by rw [size_a1,size_a1];omega)]
  have:=heap_alloc_new (w.alloc (.cells #[.int .i64 0,.int .i64 0,.string ⟨#[]⟩,.slice none 0 0] 79)) (.cells #[.int .i64 0] 41)
  rw [size_a1] at this
  exact this
theorem Cell1.kept {w w':World} {Y:Nat} {v:Value} {row:Option Nat} (h:Cell1 w Y v) (hg:w.grownBy w' row) (hne:some Y≠row):Cell1 w' Y v:=
 (hg.block Y (Array.getElem?_eq_some_iff.1 h).1 hne).trans h
theorem below_by {w W w':World} {B:Nat} (hb:Below w.heap.size w W) (hg:W.grownBy w' (some B)) (hB:w.heap.size≤B):Below w.heap.size w w':=
 hb.grown hg hb.size (fun k hk=>by cases hk;exact hB)
set_option maxRecDepth 100000 in
set_option maxHeartbeats 3200000 in
theorem decode_any (bs:List UInt8) (a:Option Addr) (cap:Nat) (w:World) (hl:bs.length≤cap) (hl2:bs.length≤1000000) (hby:Bytes w a bs) (hlt:∀ ad,a=some ad→ad.block < w.heap.size):
  Calls Tryz.prog 67 #[.slice a bs.length cap] w (DecPost bs w):=by
 have hmf:∀ (fn:Fn) (first cap:Array Value) (w:World),(Instr.makeFunc fn first cap).run Tryz.prog w= .ok (.func fn first cap) w:=fun _ _ _ _=>rfl
 have H0:=Lib.hid (dec0_of hl hl2 hby hlt)
 have HW:Hid (∀ p w,Calls Tryz.prog 93 #[p,.bool true] w fun e w'=>e= .returned (.tuple #[])∧w=w'):=want_yes
 have HN:Hid (∀ p w,Calls Tryz.prog 93 #[p,.bool false] w fun e w'=>e= .panicked codeP∧w=w'):=want_no
 clear hby hlt
 go_enter_defers Tryz.func67,Tryz.ntmps67
 go_wp2_with fail
 generalize ((w.alloc (.cells #[.int .i64 0,.int .i64 0,.string ⟨#[]⟩,.slice none 0 0] 79)).alloc (.cells #[.int .i64 0] 41)).alloc (.cells #[.slice a bs.length cap] 133)=W3 at *
 have hv:=value_any (w.heap.size+1+1) 16 (Nat.le_refl _) bs W3 H0.out.rd
 rw [show (16 - ((16:Nat):Int))=0 from rfl] at hv
 refine hv.mono ?_
 clear hv
 rintro e w4 ⟨hg4,⟨v,r,c,hd,hrb,rfl,hrep,hrd4⟩|⟨hd,rfl⟩⟩
 ·have hX4:=H0.out.box.kept hg4 (by simp;omega)
  have hY4:=H0.out.code.kept hg4 (by simp)
  have hb4:=below_by H0.out.by_ hg4 (by omega)
  obtain ⟨k0,n0,s0,a0,len0,cap0,rfl⟩:=hrep.form
  obtain ⟨x0,x1,x2,x3⟩:=hX4.cells
  obtain ⟨f0,f1,f2,f3⟩:=hX4.free
  have hsz:w.heap.size+1+1 < w4.heap.size:=hrd4.lt
  obtain ⟨a4,cap4,hB4,hl4,hl42,hby4,hlt4⟩:=hrd4
  have b0:=cell_of hB4
  have HX4:=Lib.hid hX4
  have HY4:=Lib.hid hY4
  have HREP:=Lib.hid hrep
  have HD:=Lib.hid hd
  clear hX4 hY4 hrep hd hB4 hby4 hlt4 hl4
  have y0:=HY4.out.cell
  have yf:=HY4.out.free
  have hsx:¬ w.heap.size+1=w.heap.size:=by omega
  by_cases hr0:r=[]
  ·subst hr0
   have HDEC:Hid (dec bs=some v):=by unfold Hid dec;rw [HD.out]
   simp only [List.length_nil] at b0
   go_wp2_with fail
   with_reducible refine (HW.out _ _).mono ?_
   rintro e w5 ⟨rfl,rfl⟩
   go_wp2
   refine leaves_cons (f:=91) (args:= #[.pointer (some ⟨w.heap.size,0,none⟩),.pointer (some ⟨w.heap.size+1,0,none⟩)]) (by simp) (by simp [go_sem]) ?_
   refine (catch_idle _ _ _).mono ?_
   rintro e u' w9 ⟨rfl,rfl,rfl⟩
   have hX8:=(((((((HX4.out.set0 (.int .i64 k0)).set1 (.int .i64 n0)).set2 (.string s0)).set3 (.slice a0 len0 cap0)).set0 (.int .i64 k0)).set1 (.int .i64 n0)).set2 (.string s0)).set3 (.slice a0 len0 cap0)
   have hY8:Cell1 ((((((((w4.setCell ⟨w.heap.size,0,none⟩ (.int .i64 k0)).setCell ⟨w.heap.size,1,none⟩ (.int .i64 n0)).setCell ⟨w.heap.size,2,none⟩ (.string s0)).setCell ⟨w.heap.size,3,none⟩ (.slice a0 len0 cap0)).setCell ⟨w.heap.size,0,none⟩ (.int .i64 k0)).setCell ⟨w.heap.size,1,none⟩ (.int .i64 n0)).setCell ⟨w.heap.size,2,none⟩ (.string s0)).setCell ⟨w.heap.size,3,none⟩ (.slice a0 len0 cap0)) (w.heap.size+1) (.int .i64 0):=by
    unfold Cell1
    repeat (rw [setCell_other _ _ _ _ _ hsx])
    exact HY4.out
   have hX9:Box4 _ _ _ _ _ _:=(setCell_other _ (w.heap.size+1) 0 (.int .i64 0) w.heap.size (by omega)).trans hX8
   have hY9:Cell1 _ _ _:=heap_setCell1 (u:= .int .i64 0) hY8
   obtain ⟨z0,z1,z2,z3⟩:=hX9.cells
   have t0:=hY9.cell
   refine ⟨.tuple #[.agg #[.int .i64 k0,.int .i64 n0,.string s0,.slice a0 len0 cap0],.int .i64 0],by clear x0 x1 x2 x3 y0 f0 f1 f2 f3 yf;simp only [results,Tryz.results67];simp [go_sem,z0,z1,z2,z3,t0],?_⟩
   refine ⟨_,by rw [HDEC.out];rfl,?_,?_⟩
   ·rw [HDEC.out]
    have h3':=H0.out.rd.lt
    refine HREP.out.keep (fun b hb=>⟨by omega,by simpa using hb.2⟩) ?_
    rintro b ⟨h1,h2⟩
    have h3:=H0.out.rd.lt
    repeat (rw [setCell_other _ _ _ _ _ (by omega)])
   ·exact ((((((((hb4.setCell (p:=⟨w.heap.size,0,none⟩) (Nat.le_refl _) _).setCell (p:=⟨w.heap.size,1,none⟩) (Nat.le_refl _) _).setCell (p:=⟨w.heap.size,2,none⟩) (Nat.le_refl _) _).setCell (p:=⟨w.heap.size,3,none⟩) (Nat.le_refl _) _).setCell (p:=⟨w.heap.size,0,none⟩) (Nat.le_refl _) _).setCell (p:=⟨w.heap.size,1,none⟩) (Nat.le_refl _) _).setCell (p:=⟨w.heap.size,2,none⟩) (Nat.le_refl _) _).setCell (p:=⟨w.heap.size,3,none⟩) (Nat.le_refl _) _).setCell (p:=⟨w.heap.size+1,0,none⟩) (Nat.le_succ _) _
  ·have HDEC:Hid (dec bs=none):=by
    unfold Hid dec
    rw [HD.out]
    cases r with
    |nil=>exact absurd rfl hr0
    |cons c1 r=>rfl
   have g0:((r.length:Int)==0)=false:=by
    cases r with
    |nil=>exact absurd rfl hr0
    |cons c1 r=>simp;omega
   clear hr0
   go_wp2_with fail
   with_reducible refine (HN.out _ _).mono ?_
   rintro e w5 ⟨rfl,rfl⟩
   have hX5:=(((HX4.out.set0 (.int .i64 k0)).set1 (.int .i64 n0)).set2 (.string s0)).set3 (.slice a0 len0 cap0)
   have hY5:Cell1 ((((w4.setCell ⟨w.heap.size,0,none⟩ (.int .i64 k0)).setCell ⟨w.heap.size,1,none⟩ (.int .i64 n0)).setCell ⟨w.heap.size,2,none⟩ (.string s0)).setCell ⟨w.heap.size,3,none⟩ (.slice a0 len0 cap0)) (w.heap.size+1) (.int .i64 0):=by
    unfold Cell1
    repeat (rw [setCell_other _ _ _ _ _ hsx])
    exact HY4.out
   have hb5:=(((hb4.setCell (p:=⟨w.heap.size,0,none⟩) (Nat.le_refl _) (.int .i64 k0)).setCell (p:=⟨w.heap.size,1,none⟩) (Nat.le_refl _) (.int .i64 n0)).setCell (p:=⟨w.heap.size,2,none⟩) (Nat.le_refl _) (.string s0)).setCell (p:=⟨w.heap.size,3,none⟩) (Nat.le_refl _) (.slice a0 len0 cap0)
   refine leaves_cons (f:=91) (args:= #[.pointer (some ⟨w.heap.size,0,none⟩),.pointer (some ⟨w.heap.size+1,0,none⟩)]) (by simp) (by simp [go_sem]) ?_
   refine (catch_code w.heap.size (w.heap.size+1) _ _ _ _ _ _ hX5 hY5 (by omega)).mono ?_
   rintro e u' w9 ⟨rfl,rfl,hX9,hY9,e1,e2,e3,e4,e5⟩
   obtain ⟨x0,x1,x2,x3⟩:=hX9.cells
   have y0:=hY9.cell
   refine ⟨.tuple #[.agg #[.int .i64 0,.int .i64 0,.string ⟨#[]⟩,.slice none 0 0],.int .i64 10],by simp [results,Tryz.results67,go_sem,x0,x1,x2,x3,y0],?_⟩
   refine ⟨_,by rw [HDEC.out];rfl,by rw [HDEC.out];exact repV_zero _ _,?_⟩
   exact hb5.trans ⟨e1,e2,e3,Nat.le_of_eq e4.symm,fun b hb=>e5 b (by omega) (by omega)⟩
 ·have HDEC:Hid (dec bs=none):=by unfold Hid dec;rw [hd]
  have hX4:=H0.out.box.kept hg4 (by simp;omega)
  have hY4:=H0.out.code.kept hg4 (by simp)
  refine leaves_cons (f:=91) (args:= #[.pointer (some ⟨w.heap.size,0,none⟩),.pointer (some ⟨w.heap.size+1,0,none⟩)]) (by simp) (by simp [go_sem]) ?_
  refine (catch_code w.heap.size (w.heap.size+1) _ _ _ _ _ _ hX4 hY4 (by omega)).mono ?_
  rintro e u' w9 ⟨rfl,rfl,hX9,hY9,e1,e2,e3,e4,e5⟩
  obtain ⟨x0,x1,x2,x3⟩:=hX9.cells
  have y0:=hY9.cell
  refine ⟨.tuple #[.agg #[.int .i64 0,.int .i64 0,.string ⟨#[]⟩,.slice none 0 0],.int .i64 10],by simp [results,Tryz.results67,go_sem,x0,x1,x2,x3,y0],?_⟩
  refine ⟨_,by rw [HDEC.out];rfl,by rw [HDEC.out];exact repV_zero _ _,?_⟩
  exact (below_by H0.out.by_ hg4 (by omega)).trans ⟨e1,e2,e3,Nat.le_of_eq e4.symm,fun b hb=>e5 b (by omega) (by omega)⟩
structure Dec0n (w:World) (a:Option Addr) (cap:Nat) (W:World):Prop where
 rd:W.heap[w.heap.size+1+1]? =some (.cells #[.slice a 0 cap] 133 (0,0))
 box:Box4 W w.heap.size (.int .i64 0) (.int .i64 0) (.string ⟨#[]⟩) (.slice none 0 0)
 code:Cell1 W (w.heap.size+1) (.int .i64 0)
 by_:Below w.heap.size w W
theorem dec0n_of (w:World) (a:Option Addr) (cap:Nat):
  Dec0n w a cap (((w.alloc (.cells #[.int .i64 0,.int .i64 0,.string ⟨#[]⟩,.slice none 0 0] 79)).alloc (.cells #[.int .i64 0] 41)).alloc (.cells #[.slice a 0 cap] 133)):=by
 have hb:Below w.heap.size w (((w.alloc (.cells #[.int .i64 0,.int .i64 0,.string ⟨#[]⟩,.slice none 0 0] 79)).alloc (.cells #[.int .i64 0] 41)).alloc (.cells #[.slice a 0 cap] 133)):=
  (((Below.refl _ _).alloc (Nat.le_refl _) _).alloc (by simp) _).alloc (by simp;omega) _
 refine ⟨?_,?_,?_,hb⟩
 ·have:=heap_alloc_new ((w.alloc (.cells #[.int .i64 0,.int .i64 0,.string ⟨#[]⟩,.slice none 0 0] 79)).alloc (.cells #[.int .i64 0] 41)) (.cells #[.slice a 0 cap] 133)
  rw [size_a1,size_a1] at this
  exact this
 ·unfold Box4
  rw [Below.heap_alloc _ _ _ (by rw [size_a1,size_a1];omega),Below.heap_alloc _ _ _ (by rw [size_a1];omega)]
  exact heap_alloc_new w _
 ·unfold Cell1
  rw [Below.heap_alloc _ _ _ (by rw [size_a1,size_a1];omega)]
  have:=heap_alloc_new (w.alloc (.cells #[.int .i64 0,.int .i64 0,.string ⟨#[]⟩,.slice none 0 0] 79)) (.cells #[.int .i64 0] 41)
  rw [size_a1] at this
  exact this
set_option maxRecDepth 100000 in
set_option maxHeartbeats 3200000 in
theorem value_none (B:Nat) (a:Option Addr) (cap:Nat) (w:World) (hB:w.heap[B]? =some (.cells #[.slice a 0 cap] 133 (0,0))) (dep:Int):
  Calls Tryz.prog 92 #[.pointer (some ⟨B,0,none⟩),.int .i64 dep] w fun e w'=>e= .panicked codeP∧w.grownBy w' (some B):=by
 have hBl:B < w.heap.size:=(Array.getElem?_eq_some_iff.1 hB).1
 have HR:=Lib.hid ((Below.heap_alloc w (.cells #[.int .i64 0,.int .i64 0,.string ⟨#[]⟩,.slice none 0 0] 79) B hBl).trans hB)
 clear hB
 go_enter Tryz.func92,Tryz.ntmps92
 go_wp2_with fail
 refine (take_no B a 0 cap 1 _ HR.out (by simp)).mono ?_
 rintro e w1 ⟨rfl,rfl⟩
 exact ⟨rfl,rfl,World.grownBy_alloc _ _ _⟩
set_option maxRecDepth 100000 in
set_option maxHeartbeats 3200000 in
theorem decode_none (a:Option Addr) (cap:Nat) (w:World):
  Calls Tryz.prog 67 #[.slice a 0 cap] w (DecPost [] w):=by
 have hmf:∀ (fn:Fn) (first cap:Array Value) (w:World),(Instr.makeFunc fn first cap).run Tryz.prog w= .ok (.func fn first cap) w:=fun _ _ _ _=>rfl
 have H0:=Lib.hid (dec0n_of w a cap)
 have HW:Hid (∀ p w,Calls Tryz.prog 93 #[p,.bool true] w fun e w'=>e= .returned (.tuple #[])∧w=w'):=want_yes
 have HN:Hid (∀ p w,Calls Tryz.prog 93 #[p,.bool false] w fun e w'=>e= .panicked codeP∧w=w'):=want_no
 go_enter_defers Tryz.func67,Tryz.ntmps67
 go_wp2_with fail
 generalize ((w.alloc (.cells #[.int .i64 0,.int .i64 0,.string ⟨#[]⟩,.slice none 0 0] 79)).alloc (.cells #[.int .i64 0] 41)).alloc (.cells #[.slice a 0 cap] 133)=W3 at *
 have hv:=value_none (w.heap.size+1+1) a cap W3 H0.out.rd 0
 refine hv.mono ?_
 clear hv
 rintro e w4 ⟨rfl,hg4⟩
 have HDEC:Hid (dec []=none):=by unfold Hid dec;rw [decV_nil]
 have hX4:=H0.out.box.kept hg4 (by simp;omega)
 have hY4:=H0.out.code.kept hg4 (by simp)
 refine leaves_cons (f:=91) (args:= #[.pointer (some ⟨w.heap.size,0,none⟩),.pointer (some ⟨w.heap.size+1,0,none⟩)]) (by simp) (by simp [go_sem]) ?_
 refine (catch_code w.heap.size (w.heap.size+1) _ _ _ _ _ _ hX4 hY4 (by omega)).mono ?_
 rintro e u' w9 ⟨rfl,rfl,hX9,hY9,e1,e2,e3,e4,e5⟩
 obtain ⟨x0,x1,x2,x3⟩:=hX9.cells
 have y0:=hY9.cell
 refine ⟨.tuple #[.agg #[.int .i64 0,.int .i64 0,.string ⟨#[]⟩,.slice none 0 0],.int .i64 10],by simp [results,Tryz.results67,go_sem,x0,x1,x2,x3,y0],?_⟩
 refine ⟨_,by rw [HDEC.out];rfl,by rw [HDEC.out];exact repV_zero _ _,?_⟩
 exact (below_by H0.out.by_ hg4 (by omega)).trans ⟨e1,e2,e3,Nat.le_of_eq e4.symm,fun b hb=>e5 b (by omega) (by omega)⟩
end Go.Proofs.YthidfoohhhkobaaGreat.Cd
