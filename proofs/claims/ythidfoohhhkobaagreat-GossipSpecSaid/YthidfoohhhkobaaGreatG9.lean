import Derived.Test.YthidfoohhhkobaaGreatG7
import Derived.Test.YthidfoohhhkobaaGreatG3
import Derived.Test.YthidfoohhhkobaaGreatG8
import Derived.Test.YthidfoohhhkobaaGreatG5
import Derived.Lib.Bytealg
import Derived.Lib.Walk
import Derived.Test.YthidfoohhhkobaaGreatG4
namespace Go.Proofs.YthidfoohhhkobaaGreat.Cd
set_option linter.unusedSimpArgs false
set_option linter.unusedVariables false
open Go.RowKit
attribute [local go_sem ↓] Go.wp_at_zero Go.wp_at_succ
theorem ownsRow_weak {w:World} {base base':Nat} {e:TypeId} {size:Nat} {v:Value} {n:Nat} {xs:List Value} (h:w.ownsRow base e size v n xs) (hb:base'≤base):w.ownsRow base' e size v n xs:=
 ⟨h.1,h.2.imp id fun ⟨g,cap,cur,a1,a2,a3⟩=>⟨g,cap,cur,a1,Nat.le_trans hb a2,a3⟩⟩
theorem ownsRow_below {w w':World} {base:Nat} {e:TypeId} {size:Nat} {v:Value} {n:Nat} {xs:List Value} (h:w.ownsRow base e size v n xs) (hb:Below w.heap.size w w'):w'.ownsRow base e size v n xs:=
 h.kept (⟨hb.os,hb.tape,hb.output,hb.size,fun k hk _=>hb.block k hk⟩:World.grownBy w w' none) (by cases hv:v.ownBlock<;>simp)
theorem own_lit1 (w:World) (b:UInt8) (n:Int) (h:n=(b.toNat:Int)) (base:Nat) (hb:base≤w.heap.size):(w.alloc (.cells #[.int .u8 n] 5)).ownsRow base 5 1 (.slice (some ⟨w.heap.size,0,none⟩) 1 1) [b].length ([b].map byteV):=by
 subst h;exact World.ownsRow_lit w #[byteV b] 1 hb (by unfold maxLen;omega) rfl
set_option maxRecDepth 100000 in
set_option maxHeartbeats 1000000 in
theorem rencode_1 (n:Int) (s:List UInt8) (l:List V) (a:Option Addr) (cap:Nat) (w:World) (hn:i64R n):
  Calls Tryz.prog 75 #[.agg #[.int .i64 1,.int .i64 n,.string ⟨s.toArray⟩,.slice a l.length cap]] w (Fresh (V.mk 1 n s l).enc w):=by
 have e0:(V.mk 1 n s l).enc=[1]++num (zz n):=by simp [V.enc]
 rw [e0]
 have hu:=fun w=>runsigned_any n w hn
 have hm:=fun w=>rnumeral (zz n) w (zz_lt hn)
 have hpos:=num_pos (zz n)
 have hle:=num_le (zz n)
 generalize num (zz n)=xs at *
 have HU:=Lib.hid hu
 have HM:=Lib.hid hm
 clear hu hm e0 hn
 go_enter Tryz.func75,Tryz.ntmps75
 go_wp2_with fail
 refine (HU.out _).mono ?_
 rintro e w' ⟨rfl,rfl⟩
 go_wp2_with fail
 refine (HM.out _).mono ?_
 rintro e w1 ⟨v1,rfl,hown1,hb1⟩
 have hown0:=ownsRow_below (own_lit1 (w.alloc (Obj.cells #[.int .i64 1,.int .i64 n,.string ⟨s.toArray⟩,.slice a l.length cap] 79)) 1 1 rfl w.heap.size (by simp)) hb1
 have HO0:=Lib.hid hown0
 have HO1:=Lib.hid hown1
 have K3:=Lib.hid (maxLen_le (n:=[(1:UInt8)].length+xs.length) (by simp;omega))
 have K4:=Lib.hid (show ([(1:UInt8)].length+xs.length) * 1≤140737488355328 by simp;omega)
 have hsz:w.heap.size≤w1.heap.size:=by have:=hb1.size;simp at this;omega
 have hbb:Below w.heap.size w w1:=(((Below.refl _ _).alloc (Nat.le_refl _) _).alloc (by simp) _).trans (hb1.mono (by simp;omega))
 clear hown0 hown1 hb1
 simp only [size_a1] at HO0
 go_wp2_with (at_builtin;refine wpList_app rfl _ _ rfl elemB w.heap.size _ _ _ rfl HO0.out _ _ _ rfl (Source.own HO1.out (byteV_one _)) (.inl rfl) K3.out K4.out hsz ?_;intro v2 w2 hg2)
 go_ret
 have h3:=grew_more (bs:=[1]) rfl rfl rfl hg2
 exact ⟨v2,rfl,h3.own,hbb.trans (h3.below hsz (fun g hg=>(HO0.out.lt g hg).1))⟩
theorem own2_of {w w1:World} {o:Obj} {b:UInt8} {n:Int} (hn:n=(b.toNat:Int)) (hb:Below ((w.alloc o).alloc (.cells #[.int .u8 n] 5)).drew.heap.size ((w.alloc o).alloc (.cells #[.int .u8 n] 5)).drew w1):
  w1.ownsRow (w.heap.size+1) 5 1 (.slice (some ⟨w.heap.size+1,0,none⟩) 1 1) [b].length ([b].map byteV):=by
 have h:=own_lit1 (w.alloc o) b n hn (w.heap.size+1) (by simp)
 rw [size_a1] at h
 exact ownsRow_below h.drew hb
theorem sz_of {w w1:World} {o o':Obj} (hb:Below ((w.alloc o).alloc o').drew.heap.size ((w.alloc o).alloc o').drew w1):w.heap.size+1≤w1.heap.size:=by
 have:=hb.size;rw [size_a2d] at this;omega
theorem facts1 {w w1:World} {o:Obj} {b:UInt8} {n:Int} {v1:Value} {xs:List UInt8} {B:Nat} (hn:n=(b.toNat:Int)) (hb:Below ((w.alloc o).alloc (.cells #[.int .u8 n] 5)).drew.heap.size ((w.alloc o).alloc (.cells #[.int .u8 n] 5)).drew w1)
  (ho:w1.ownsRow B 5 1 v1 xs.length (xs.map byteV)):
  Hid (w1.ownsRow (w.heap.size+1) 5 1 (.slice (some ⟨w.heap.size+1,0,none⟩) 1 1) [b].length ([b].map byteV))∧Hid (Source Tryz.prog 50 50 1 w1 v1 xs.length (xs.map byteV))∧w.heap.size+1≤w1.heap.size∧Below w.heap.size w w1:=
 ⟨own2_of hn hb,Source.own ho (byteV_one _),sz_of hb,((((Below.refl _ _).alloc (Nat.le_refl _) _).alloc (by simp) _).drew).trans (hb.mono (by rw [size_a2d];omega))⟩
theorem facts2 {w w1:World} {o:Obj} {b:UInt8} {n:Int} {v1:Value} {xs:List UInt8} {B:Nat} (hn:n=(b.toNat:Int)) (hb:Below (w.alloc o).drew.heap.size (w.alloc o).drew w1)
  (ho:w1.ownsRow B 5 1 v1 xs.length (xs.map byteV)):
  Hid ((w1.alloc (.cells #[.int .u8 n] 5)).ownsRow (w.heap.size+1) 5 1 (.slice (some ⟨w1.heap.size,0,none⟩) 1 1) [b].length ([b].map byteV))∧Hid (Source Tryz.prog 50 50 1 (w1.alloc (.cells #[.int .u8 n] 5)) v1 xs.length (xs.map byteV))∧w.heap.size+1≤(w1.alloc (.cells #[.int .u8 n] 5)).heap.size∧Below w.heap.size w (w1.alloc (.cells #[.int .u8 n] 5)):=by
 have hs:=hb.size
 rw [size_a1d] at hs
 refine ⟨own_lit1 w1 b n hn _ hs,Source.own (ho.alloc _) (byteV_one _),le_alloc hs _,?_⟩
 exact ((((Below.refl _ _).alloc (Nat.le_refl _) _).drew).trans (hb.mono (by rw [size_a1d];omega))).alloc (by omega) _
set_option maxRecDepth 100000 in
set_option maxHeartbeats 3200000 in
theorem rencode_2 (n:Int) (s:List UInt8) (l:List V) (a:Option Addr) (cap:Nat) (w:World) (hs:s.length≤1000000):
  Calls Tryz.prog 75 #[.agg #[.int .i64 2,.int .i64 n,.string ⟨s.toArray⟩,.slice a l.length cap]] w (Fresh (V.mk 2 n s l).enc w):=by
 have e0:(V.mk 2 n s l).enc=[2]++num s.length++s:=by simp [V.enc]
 rw [e0]
 have hm:=fun w=>rnumeral s.length w (by omega)
 have hpos:=num_pos s.length
 have hle:=num_le s.length
 generalize num s.length=xs at *
 have HM:=Lib.hid hm
 have K3:=Lib.hid (maxLen_le (n:=[(2:UInt8)].length+xs.length) (by simp;omega))
 have K4:=Lib.hid (show ([(2:UInt8)].length+xs.length) * 1≤140737488355328 by simp;omega)
 have K5:=Lib.hid (maxLen_le (n:=([2]++xs).length+(⟨s.toArray⟩:ByteArray).size) (by simp [ByteArray.size];omega))
 have K6:=Lib.hid (show (([2]++xs).length+(⟨s.toArray⟩:ByteArray).size) * 1≤140737488355328 by simp [ByteArray.size];omega)
 have kw:IntKind.u64.wrap (s.length:Int)=s.length:=by simp [IntKind.wrap,IntKind.bits,IntKind.signed];omega
 clear hm e0
 go_enter Tryz.func75,Tryz.ntmps75
 go_wp2_with fail
 go_region_held3 (fun w'=>w'.cell? ⟨w.heap.size,2,none⟩=some (.string ⟨s.toArray⟩))
  (first
   |go_keep
   |exact below_cell hb1 ‹_›
   |exact hg2.cell ‹_› (fun e=>by have:=(HO0.out.lt _ e).1;have h':w.heap.size+1≤w.heap.size:=this;omega)
   |exact hg3.cell ‹_› (fun e=>by have:=(hg2.own.lt _ e).1;have h':w.heap.size+1≤w.heap.size:=this;omega))
  (first
   |(go_at_call 97;((with_reducible refine (HM.out _).mono ?_));rintro e w1 ⟨v1,rfl,hown1,hb1⟩;first |(obtain ⟨HO0,HS,hszW,hbW⟩:=facts1 (b:=2) rfl hb1 hown1;clear hown1)|(obtain ⟨HO0,HS,hszW,hbW⟩:=facts2 (b:=2) (n:=2) rfl hb1 hown1;clear hown1))
   |(refine step_app (by rfl) _ _ (by rfl) elemB (w.heap.size+1) _ _ _ (by rfl) HO0.out _ _ _ (by rfl) HS.out (.inl rfl) K3.out K4.out hszW ?_;intro v2 w2 hg2';have hg2:=grew_more (bs:=[2]) rfl rfl rfl hg2';clear hg2')
   |(refine step_app (by rfl) _ _ (by rfl) elemB (w.heap.size+1) v2 _ _ (by rfl) hg2.own (.string ⟨s.toArray⟩) _ _ (by rfl) (Source.text _ Tryz.underlying9 rfl) (.inr rfl) K5.out K6.out (Nat.le_trans hszW hg2.by_.size) ?_;intro v3 w3 hg3))
 all_goals
  go_wp2
  go_ret
  have h3:=hg2.trans (grew_more (cs:=s) rfl (by simp [ByteArray.size]) (strCells_of s) hg3)
  exact ⟨v3,rfl,ownsRow_weak h3.own (by omega),hbW.trans ((h3.below hszW (fun g hg=>(HO0.out.lt g hg).1)).mono (by omega))⟩
set_option maxRecDepth 100000 in
set_option maxHeartbeats 3200000 in
theorem rencode_3 (k n:Int) (s:List UInt8) (l:List V) (a:Option Addr) (cap:Nat) (w:World) (h1:¬ k=1) (h2:¬ k=2) (hr:RepL w l a) (hl:l.length≤cap) (hc:l.length≤140737488351232) (hlen:(V.encs l).length≤1000000)
  (ih:∀ v,v∈l→∀ w c,RepV w v c→Calls Tryz.prog 75 #[c] w (Fresh v.enc w)):
  Calls Tryz.prog 75 #[.agg #[.int .i64 k,.int .i64 n,.string ⟨s.toArray⟩,.slice a l.length cap]] w (Fresh (V.mk k n s l).enc w):=by
 have e0:(V.mk k n s l).enc=[3]++num l.length++V.encs l:=by simp [V.enc,h1,h2]
 rw [e0]
 have hll:=V.encs_len l
 have hm:=fun w=>rnumeral l.length w (by omega)
 have hpos:=num_pos l.length
 have hle:=num_le l.length
 have g1:(k==1)=false:=by simpa using h1
 have g2:(k==2)=false:=by simpa using h2
 generalize num l.length=xs at *
 have HM:=Lib.hid hm
 have HR:=Lib.hid hr
 have IH:=Lib.hid ih
 have K3:=Lib.hid (maxLen_le (n:=[(3:UInt8)].length+xs.length) (by simp;omega))
 have K4:=Lib.hid (show ([(3:UInt8)].length+xs.length) * 1≤140737488355328 by simp;omega)
 clear hm e0 h1 h2 hr ih
 go_enter Tryz.func75,Tryz.ntmps75
 go_wp2_with fail
 refine (HM.out _).mono ?_
 rintro e w1 ⟨v1,rfl,hown1,hb1⟩
 have hown0:=ownsRow_below (own_lit1 (w.alloc (Obj.cells #[.int .i64 k,.int .i64 n,.string ⟨s.toArray⟩,.slice a l.length cap] 79)) 3 3 rfl (w.heap.size+1) (by simp)) hb1
 rw [size_a1] at hown0
 have HO0:=Lib.hid hown0
 have HO1:=Lib.hid hown1
 have hsz:w.heap.size+1≤w1.heap.size:=by have:=hb1.size;simp at this;omega
 have hbb:Below (w.heap.size+1) (w.alloc (.cells #[.int .i64 k,.int .i64 n,.string ⟨s.toArray⟩,.slice a l.length cap] 79)) w1:=((Below.refl _ _).alloc (by simp) _).trans (hb1.mono (by simp))
 clear hown0 hown1 hb1
 go_wp2_with (at_builtin;refine wpList_app rfl _ _ rfl elemB (w.heap.size+1) _ _ _ rfl HO0.out _ _ _ rfl (Source.own HO1.out (byteV_one _)) (.inl rfl) K3.out K4.out hsz ?_;intro v2 w2 hg2)
 have hg3:=grew_more (bs:=[3]) rfl rfl rfl hg2
 have hb3:=hbb.trans (hg3.below hsz (fun g hg=>(HO0.out.lt g hg).1))
 have HG3:=Lib.hid hg3.own
 clear hg2 hg3 hbb
 go_loopw [3,4] (fun u i wr=>∃ j:Nat,j≤l.length∧i= .int .i64 j∧wr.ownsRow (w.heap.size+1) 5 1 u ([3]++xs++V.encs (l.take j)).length (([3]++xs++V.encs (l.take j)).map byteV)∧Below (w.heap.size+1) (w.alloc (.cells #[.int .i64 k,.int .i64 n,.string ⟨s.toArray⟩,.slice a l.length cap] 79)) wr) (fun _ i _=>l.length - (intOf i).toNat)
 case atStart=>exact ⟨0,Nat.zero_le _,rfl,by simpa [V.encs] using HG3.out,hb3⟩
 case round=>
  obtain ⟨j,hj,rfl,hown,hb⟩:=hrel
  have HO:=Lib.hid hown
  have q3:wr.cell? ⟨w.heap.size,3,none⟩=some (.slice a l.length cap):=(hb.cell (by simp)).trans (by go_simp)
  have hb0:Below w.heap.size w wr:=((Below.refl _ _).alloc (Nat.le_refl _) _).trans (hb.mono (by omega))
  clear hown
  by_cases hlt:j < l.length
  ·obtain ⟨b,off,k0,n0,s0,a',len',cap',rfl,g0,g1,g2,g3,hv⟩:=(RepL.below hb0 HR.out).at j hlt
   have HV:=Lib.hid hv
   have hle2:=V.encs_take_le l j hlt
   have hsz1:w.heap.size+1≤wr.heap.size:=by have:=hb.size;simpa using this
   clear hv
   go_wp2_with fail
   refine (IH.out l[j] (List.getElem_mem _) _ _ HV.out).mono ?_
   rintro e w5 ⟨v5,rfl,hown5,hb5⟩
   have HO5:=Lib.hid hown5
   have HO6:=Lib.hid (ownsRow_below HO.out hb5)
   have hb6:=hb.trans (hb5.mono hsz1)
   have hsz6:w.heap.size+1≤w5.heap.size:=Nat.le_trans hsz1 hb5.size
   have K5:=Lib.hid (maxLen_le (n:=([3]++xs++V.encs (l.take j)).length+l[j].enc.length) (by simp only [List.length_append,List.length_cons,List.length_nil];omega))
   have K6:=Lib.hid (show (([3]++xs++V.encs (l.take j)).length+l[j].enc.length) * 1≤140737488355328 by simp only [List.length_append,List.length_cons,List.length_nil];omega)
   clear hown5 hb5
   go_wp2_with (at_builtin;refine wpList_app rfl _ _ rfl elemB (w.heap.size+1) _ _ _ rfl HO6.out _ _ _ rfl (Source.own HO5.out (byteV_one _)) (.inl rfl) K5.out K6.out hsz6 ?_;intro v7 w7 hg7)
   have hg8:=grew_more rfl rfl rfl hg7
   have hb8:=hb6.trans (hg8.below hsz6 (fun g hg=>(HO6.out.lt g hg).1))
   go_roundw
   case rel=>
    refine ⟨j+1,by omega,by go_num,?_,hb8⟩
    have e:[3]++xs++V.encs (l.take (j+1))=([3]++xs++V.encs (l.take j))++l[j].enc:=by rw [V.encs_take_succ l j hlt];simp
    rw [e]
    exact hg8.own
   case measure=>simp [intOf];omega
  ·have e4:l.take j=l:=List.take_of_length_le (by omega)
   rw [e4] at HO
   clear e4
   go_wp2
   go_ret
   exact ⟨_,rfl,ownsRow_weak HO.out (by omega),hb0⟩
theorem rencode_any (m:Nat):∀ (v:V) (w:World) (c:Value),SizeOf.sizeOf v≤m→v.enc.length≤1000000→RepV w v c→Calls Tryz.prog 75 #[c] w (Fresh v.enc w):=by
 induction m with
 |zero=>intro v w c hm;cases v;simp at hm
 |succ m ih=>
   intro v w c hm hlen hr
   obtain ⟨k,n,s,l⟩:=v
   simp only [RepV] at hr
   obtain ⟨a,cap,rfl,hk,hn,hs,hl,hcap,hrl⟩:=hr
   by_cases h1:k=1
   ·subst h1;exact rencode_1 n s l a cap w hn
   ·by_cases h2:k=2
    ·subst h2
     have e:(V.mk 2 n s l).enc=2 :: (num s.length++s):=by simp [V.enc]
     rw [e] at hlen
     exact rencode_2 n s l a cap w (by simp at hlen;omega)
    ·have e:(V.mk k n s l).enc=3 :: (num l.length++V.encs l):=by simp [V.enc,h1,h2]
     rw [e] at hlen
     have hl2:(V.encs l).length≤1000000:=by simp at hlen;omega
     refine rencode_3 k n s l a cap w h1 h2 hrl hl hcap hl2 fun x hx w' c' hr'=>ih x w' c' ?_ ?_ hr'
     ·have:=List.sizeOf_lt_of_mem hx
      simp at hm;omega
     ·obtain ⟨i,hi,rfl⟩:=List.mem_iff_getElem.1 hx
      have:=V.encs_take_le l i hi
      omega
end Go.Proofs.YthidfoohhhkobaaGreat.Cd

namespace Go.Proofs.YthidfoohhhkobaaGreat.Cd
set_option linter.unusedSimpArgs false
set_option linter.unusedVariables false
open Go.RowKit
set_option maxHeartbeats 1000000 in
theorem rcheck_any (v:V) (w:World) (c:Value) (hd:v.depth≤1000000) (hr:RepV w v c):Calls Tryz.prog 74 #[c] w (GivesI v.chk w):=by
 obtain ⟨k,n,s,a,len,cap,rfl⟩:=hr.form
 have hf:=fun W hb=>rformed_any _ v W _ (Nat.le_refl _) (RepV.below (w':=W) hb hr)
 have hd':=fun W hb=>rdepth_any _ v W _ (Nat.le_refl _) hd (RepV.below (w':=W) hb hr)
 have HF:=Lib.hid hf
 have HD:=Lib.hid hd'
 clear hf hd' hr
 by_cases hok:v.ok=true
 ·rw [hok] at HF
  by_cases h16:(16:Int) < v.depth
  ·have ez:v.chk=2:=by rw [V.chk_of,if_pos hok,if_pos (by omega)]
   rw [ez]
   clear ez
   go_enter Tryz.func74,Tryz.ntmps74
   go_wp2_with fail
   refine (HF.out _ ((Below.refl _ _).alloc (Nat.le_refl _) _)).mono ?_
   rintro e w1 ⟨rfl,hb1⟩
   have q0:w1.cell? ⟨w.heap.size,0,none⟩=some (.int .i64 k):=(hb1.cell (by simp)).trans (by go_simp)
   have q1:w1.cell? ⟨w.heap.size,1,none⟩=some (.int .i64 n):=(hb1.cell (by simp)).trans (by go_simp)
   have q2:w1.cell? ⟨w.heap.size,2,none⟩=some (.string s):=(hb1.cell (by simp)).trans (by go_simp)
   have q3:w1.cell? ⟨w.heap.size,3,none⟩=some (.slice a len cap):=(hb1.cell (by simp)).trans (by go_simp)
   have hb2:Below w.heap.size w w1:=((Below.refl _ _).alloc (Nat.le_refl _) _).trans (hb1.mono (by simp))
   go_wp2_with fail
   refine (HD.out _ hb2).mono ?_
   rintro e w3 ⟨rfl,hb3⟩
   go_wp2
   go_ret
   exact givesI_of rfl (hb2.trans (hb3.mono hb2.size))
  ·have ez:v.chk=0:=by rw [V.chk_of,if_pos hok,if_neg (by omega)]
   rw [ez]
   clear ez
   go_enter Tryz.func74,Tryz.ntmps74
   go_wp2_with fail
   refine (HF.out _ ((Below.refl _ _).alloc (Nat.le_refl _) _)).mono ?_
   rintro e w1 ⟨rfl,hb1⟩
   have q0:w1.cell? ⟨w.heap.size,0,none⟩=some (.int .i64 k):=(hb1.cell (by simp)).trans (by go_simp)
   have q1:w1.cell? ⟨w.heap.size,1,none⟩=some (.int .i64 n):=(hb1.cell (by simp)).trans (by go_simp)
   have q2:w1.cell? ⟨w.heap.size,2,none⟩=some (.string s):=(hb1.cell (by simp)).trans (by go_simp)
   have q3:w1.cell? ⟨w.heap.size,3,none⟩=some (.slice a len cap):=(hb1.cell (by simp)).trans (by go_simp)
   have hb2:Below w.heap.size w w1:=((Below.refl _ _).alloc (Nat.le_refl _) _).trans (hb1.mono (by simp))
   go_wp2_with fail
   refine (HD.out _ hb2).mono ?_
   rintro e w3 ⟨rfl,hb3⟩
   go_wp2
   go_ret
   exact givesI_of rfl (hb2.trans (hb3.mono hb2.size))
 ·have hok':v.ok=false:=by simpa using hok
  have ez:v.chk=1:=by rw [V.chk_of,if_neg hok]
  rw [ez]
  rw [hok'] at HF
  clear hok ez hok'
  go_enter Tryz.func74,Tryz.ntmps74
  go_wp2_with fail
  refine (HF.out _ ((Below.refl _ _).alloc (Nat.le_refl _) _)).mono ?_
  rintro e w1 ⟨rfl,hb1⟩
  go_wp2
  go_ret
  exact givesI_of rfl (((Below.refl _ _).alloc (Nat.le_refl _) _).trans (hb1.mono (by simp)))
set_option maxHeartbeats 1000000 in
theorem rencodeE_any (v:V) (w:World) (c:Value) (hd:v.depth≤1000000) (hlen:v.enc.length≤1000000) (hr:RepV w v c):Calls Tryz.prog 41 #[c] w (EncPost v w):=by
 obtain ⟨k,n,s,a,len,cap,rfl⟩:=hr.form
 have hc:=fun W hb=>rcheck_any v W _ hd (RepV.below (w':=W) hb hr)
 have he:=fun W hb=>rencode_any _ v W _ (Nat.le_refl _) hlen (RepV.below (w':=W) hb hr)
 have HC:=Lib.hid hc
 have HE:=Lib.hid he
 clear hc he hr
 by_cases hz:v.chk=0
 ·unfold EncPost V.out
  rw [hz,if_pos rfl]
  rw [hz] at HC
  clear hz
  go_enter Tryz.func41,Tryz.ntmps41
  go_wp2_with fail
  refine (HC.out _ ((Below.refl _ _).alloc (Nat.le_refl _) _)).mono ?_
  rintro e w1 ⟨rfl,hb1⟩
  have q0:w1.cell? ⟨w.heap.size,0,none⟩=some (.int .i64 k):=(hb1.cell (by simp)).trans (by go_simp)
  have q1:w1.cell? ⟨w.heap.size,1,none⟩=some (.int .i64 n):=(hb1.cell (by simp)).trans (by go_simp)
  have q2:w1.cell? ⟨w.heap.size,2,none⟩=some (.string s):=(hb1.cell (by simp)).trans (by go_simp)
  have q3:w1.cell? ⟨w.heap.size,3,none⟩=some (.slice a len cap):=(hb1.cell (by simp)).trans (by go_simp)
  have hb2:Below w.heap.size w w1:=((Below.refl _ _).alloc (Nat.le_refl _) _).trans (hb1.mono (by simp))
  go_wp2_with fail
  refine (HE.out _ hb2).mono ?_
  rintro e w3 ⟨v3,rfl,hown3,hb3⟩
  go_wp2
  go_ret2
  exact ⟨v3,rfl,ownsRow_weak hown3 hb2.size,hb2.trans (hb3.mono hb2.size)⟩
 ·have hz':(v.chk != 0)=true:=by simpa using hz
  have e1:v.out=[]:=by unfold V.out;rw [if_neg hz]
  unfold EncPost
  rw [e1]
  clear hz e1
  go_enter Tryz.func41,Tryz.ntmps41
  go_wp2_with fail
  refine (HC.out _ ((Below.refl _ _).alloc (Nat.le_refl _) _)).mono ?_
  rintro e w1 ⟨rfl,hb1⟩
  go_wp2
  go_ret2
  exact ⟨_,rfl,World.ownsRow_nil _ _ _ _,((Below.refl _ _).alloc (Nat.le_refl _) _).trans (hb1.mono (by simp))⟩
theorem own_form {w:World} {base:Nat} {e:TypeId} {size:Nat} {v:Value} {n:Nat} {xs:List Value} (h:w.ownsRow base e size v n xs):∃ a cap,v= .slice a n cap:=by
 rcases h.2 with ⟨rfl,rfl⟩|⟨g,cap,cur,rfl,_⟩
 ·exact ⟨_,_,rfl⟩
 ·exact ⟨_,_,rfl⟩
end Go.Proofs.YthidfoohhhkobaaGreat.Cd

namespace Go.Proofs.YthidfoohhhkobaaGreat
set_option linter.unusedSimpArgs false
open Go.RowKit
set_option linter.unusedVariables false
def val0:List D:=[cI 0,cI 0,.c (.string ⟨#[]⟩),.c (.slice none 0 0)]
mutual
def valD:Cd.V→List D
 | .mk k n s l=>[cI k,cI n,.c (.string (strL s)),.sl 4 val0 (valsD l)]
def valsD:List Cd.V→List (List D)
 |[]=>[]
 |v :: l=>valD v :: valsD l
end
theorem valsD_map:∀ l:List Cd.V,valsD l=l.map valD
 |[]=>rfl
 |v :: l=>by rw [valsD,valsD_map l];rfl
theorem valsD_len (l:List Cd.V):(valsD l).length=l.length:=by rw [valsD_map];simp
mutual
def vOk:Cd.V→Prop
 | .mk k n s l=>Cd.i64R k∧Cd.i64R n∧s.length≤140737488351232∧vsOk l
def vsOk:List Cd.V→Prop
 |[]=>True
 |v :: l=>vOk v∧vsOk l
end
mutual
theorem rep_of {F:Ft} {w:World}:∀ (v:Cd.V) (us:List Value),vOk v→RDL F w (valD v) us→Cd.RepV w v (.agg us.toArray)
 | .mk k n s l,us,hv,h=>by
   simp only [vOk] at hv
   obtain ⟨h1,h2,h3,h4⟩:=hv
   simp only [valD,RDL,RD] at h
   obtain ⟨_,_,rfl,rfl,_,_,rfl,rfl,_,_,rfl,rfl,u,_,rfl,⟨a,cap,rfl,e2,e3,hr⟩,rfl⟩:=h
   rw [valsD_len] at e2 e3 ⊢
   simp only [Cd.RepV]
   refine ⟨a,cap,rfl,h1,h2,h3,e2,e3,?_⟩
   cases l with
   |nil=>simp only [Cd.RepL]
   |cons v l=>
     obtain ⟨b,o,rfl⟩:∃ b o,a=some ⟨b,o,none⟩:=by
      simp only [valsD,RR] at hr
      obtain ⟨⟨b,o,_,e,_⟩,_⟩:=hr
      exact ⟨b,o,e⟩
     have:=repL_of (v :: l) b o 0 h4 hr
     simpa using this
theorem repL_of {F:Ft} {w:World}:∀ (l:List Cd.V) (b o k:Nat),vsOk l→RR F w 4 (some ⟨b,o,none⟩) (valsD l) k→Cd.RepL w l (some ⟨b,o+k,none⟩)
 |[],b,o,k,_,_=>by simp only [Cd.RepL]
 |v :: l,b,o,k,hv,h=>by
   simp only [vsOk] at hv
   simp only [valsD,RR] at h
   obtain ⟨⟨b',o',us,e,h1,h2,h3,h4⟩,h5⟩:=h
   cases e
   obtain ⟨c0,c1,c2,c3,rfl⟩:∃ c0 c1 c2 c3,us=[c0,c1,c2,c3]:=by
    match us,h2 with
    |[c0,c1,c2,c3],_=>exact ⟨_,_,_,_,rfl⟩
   have ih:=repL_of l b o (k+4) hv.2 h5
   simp only [Cd.RepL]
   refine ⟨b,o+k,c0,c1,c2,c3,rfl,?_,?_,?_,?_,rep_of v _ hv.1 h1,?_⟩
   ·simpa using (h4 0 c0 rfl).2
   ·simpa using (h4 1 c1 rfl).2
   ·simpa using (h4 2 c2 rfl).2
   ·simpa using (h4 3 c3 rfl).2
   ·rw [show o+k+4=o+(k+4) by omega];exact ih
end
mutual
theorem rdl_of_repF {G:Nat→Prop} {F:Ft} {w:World} (hF:∀ b,G b→∀ o,F.c b o):∀ (v:Cd.V) (c:Value),Cd.RepF G w v c→∃ us:List Value,c= .agg us.toArray∧RDL F w (valD v) us∧(∀ u∈us,u.oneCell'=true)∧us.length=4
 | .mk k n s l,c,h=>by
   simp only [Cd.RepF] at h
   obtain ⟨a,cap,rfl,h1,h2,h3,h4,h5,h6⟩:=h
   refine ⟨[.int .i64 k,.int .i64 n,.string ⟨s.toArray⟩,.slice a l.length cap],rfl,?_,by simp [Value.oneCell'],rfl⟩
   simp only [valD,RDL,RD]
   refine ⟨_,_,rfl,rfl,_,_,rfl,rfl,_,_,rfl,rfl,_,_,rfl,⟨a,cap,by rw [valsD_len],by rw [valsD_len];exact h4,by rw [valsD_len];exact h5,?_⟩,rfl⟩
   cases l with
   |nil=>simp only [valsD,RR]
   |cons v l=>
     obtain ⟨b,o,rfl⟩:∃ b o,a=some ⟨b,o,none⟩:=by
      simp only [Cd.RepFL] at h6
      obtain ⟨b,o,_,_,_,_,_,e,_⟩:=h6
      exact ⟨b,o,e⟩
     exact rr_of_repF hF (v :: l) b o 0 h6
theorem rr_of_repF {G:Nat→Prop} {F:Ft} {w:World} (hF:∀ b,G b→∀ o,F.c b o):∀ (l:List Cd.V) (b o k:Nat),Cd.RepFL G w l (some ⟨b,o+k,none⟩)→RR F w 4 (some ⟨b,o,none⟩) (valsD l) k
 |[],b,o,k,_=>by simp only [valsD,RR]
 |v :: l,b,o,k,h=>by
   simp only [Cd.RepFL] at h
   obtain ⟨b',o',c0,c1,c2,c3,hG,e,h0,h1,h2,h3,hv,hl⟩:=h
   cases e
   obtain ⟨us,e1,e2,e3,e4⟩:=rdl_of_repF hF v _ hv
   obtain rfl:us=[c0,c1,c2,c3]:=by
    have:=Value.agg.inj e1
    have:=congrArg Array.toList this
    simpa using this.symm
   simp only [valsD,RR]
   refine ⟨⟨b,o,_,rfl,e2,rfl,e3,fun j u hj=>⟨hF b hG _,?_⟩⟩,rr_of_repF hF l b o (k+4) (by rw [show o+(k+4)=o+k+4 by omega];exact hl)⟩
   match j,hj with
   |0,hj=>simp at hj;subst hj;simpa using h0
   |1,hj=>simp at hj;subst hj;simpa using h1
   |2,hj=>simp at hj;subst hj;simpa using h2
   |3,hj=>simp at hj;subst hj;simpa using h3
end
def Ft.all (F:Ft) (w w':World):Ft:=⟨fun b o=>F.c b o∨(w.heap.size≤b∧b < w'.heap.size),F.m⟩
theorem Ft.all_new (F:Ft) (w w':World):FtNew F (F.all w w') w w':=⟨⟨fun _ _ h=> .inl h,fun _ h=>h⟩,fun _ _ h=>h,fun _ h=> .inl h⟩
theorem byD_us {F:Ft} {w:World}:∀ l:List UInt8,RDL F w (l.map byD).flatten (l.map Cd.byteV)
 |[]=>by simp [RDL]
 |b :: l=>by simp only [List.map_cons,List.flatten_cons,byD,List.cons_append,List.nil_append,RDL,RD];exact ⟨_,_,rfl,rfl,byD_us l⟩
theorem own_bs {F:Ft} {w w':World} {v:Value} {e:TypeId} {l:List UInt8} (hl:l.length≤140737488351232) (h:w'.ownsRow w.heap.size e 1 v l.length (l.map Cd.byteV)):RD (F.all w w') w' (bsD l) v:=by
 simp only [RD]
 rcases h.2 with ⟨rfl,h2⟩|⟨g,cap,cur,rfl,h1,h3,h4,h5,h6,h7⟩
 ·have:l=[]:=List.eq_nil_of_length_eq_zero h2
  subst this
  exact ⟨none,0,rfl,Nat.le_refl _,by simp,by simp [RR]⟩
 ·have hlt:g < w'.heap.size:=(Array.getElem?_eq_some_iff.1 h3).1
  refine ⟨some ⟨g,0,none⟩,cap,by simp,by simpa using h4,by simpa using hl,?_⟩
  refine RR.of_cells (us:=l.map Cd.byteV) (byD_us l) (fun z hz=>by obtain ⟨c,_,rfl⟩:=List.mem_map.1 hz;rfl) (fun u hu=>by obtain ⟨c,_,rfl⟩:=List.mem_map.1 hu;rfl) (fun j u hj=>⟨.inr ⟨h1,hlt⟩,?_⟩)
  have:=h.cells (g:=g) rfl j u hj
  rw [Addr.add_mid] at this
  simpa using this
theorem cdEnc_spec (v:Cd.V) (hv:vOk v) (hd:v.depth≤1000000) (hl:v.enc.length≤1000000):Spec Tryz.prog 81 [.agg (valD v)] (.rt [.one (bsD v.out),aI v.chk]):=by
 intro F w us hF hus
 simp only [RAL] at hus
 obtain ⟨c,r,rfl,⟨cs,rfl,h1,_⟩,rfl⟩:=hus
 refine (Cd.encode_any v w _ hd hl (rep_of v cs hv h1)).mono ?_
 rintro e w' ⟨v',rfl,ho,hb⟩
 have hol:v.out.length≤140737488351232:=by
  unfold Cd.V.out
  split
  ·omega
  ·simp
 exact ⟨_,F.all w w',rfl,hb,Ft.all_new _ _ _,_,rfl,_,_,rfl,own_bs hol ho,_,_,rfl,by simp only [RA,RD],rfl⟩
theorem rcdEnc_spec (v:Cd.V) (hv:vOk v) (hd:v.depth≤1000000) (hl:v.enc.length≤1000000):Spec Tryz.prog 41 [.agg (valD v)] (.rt [.one (bsD v.out),aI v.chk]):=by
 intro F w us hF hus
 simp only [RAL] at hus
 obtain ⟨c,r,rfl,⟨cs,rfl,h1,_⟩,rfl⟩:=hus
 refine (Cd.rencodeE_any v w _ hd hl (rep_of v cs hv h1)).mono ?_
 rintro e w' ⟨v',rfl,ho,hb⟩
 have hol:v.out.length≤140737488351232:=by
  unfold Cd.V.out
  split
  ·omega
  ·simp
 exact ⟨_,F.all w w',rfl,hb,Ft.all_new _ _ _,_,rfl,_,_,rfl,own_bs hol ho,_,_,rfl,by simp only [RA,RD],rfl⟩
theorem bytes_of {F:Ft} {w:World} {a:Option Addr}:∀ (l:List UInt8),RR F w 1 a (l.map byD) 0→Cd.Bytes w a l:=by
 intro l h
 cases l with
 |nil=>exact .inl rfl
 |cons c l=>
   obtain ⟨b,o,us,e,_⟩:=RR.get (i:=0) h rfl
   refine .inr ⟨b,o,e,fun i hi=>?_⟩
   obtain ⟨b',o',us',e',h1,h2,h3,h4⟩:=RR.get (i:=i) (e:=byD (c :: l)[i]) h (by rw [List.getElem?_map,List.getElem?_eq_getElem hi];rfl)
   rw [e] at e'
   cases e'
   simp only [byD,RDL,RD] at h1
   obtain ⟨u,r,rfl,rfl,rfl⟩:=h1
   simpa [Cd.byteV] using (h4 0 _ rfl).2
theorem cdDec_spec (l:List UInt8) (hl:l.length≤1000000):Spec Tryz.prog 67 [.one (bsD l)] (.rt [.agg (valD ((Cd.dec l).getD Cd.V.zero)),aI (if (Cd.dec l).isSome then 0 else 10)]):=by
 intro F w us hF hus
 simp only [RAL] at hus
 obtain ⟨c,r,rfl,h1,rfl⟩:=hus
 simp only [RA,RD,List.length_map] at h1
 obtain ⟨a,cap,rfl,h2,h3,h4⟩:=h1
 refine Calls.mono (R:=Cd.DecPost l w) ?_ ?_
 ·cases l with
  |nil=>exact Cd.decode_none a cap w
  |cons c l=>
    refine Cd.decode_any (c :: l) a cap w h2 hl (bytes_of _ h4) (fun ad he=>?_)
    subst he
    obtain ⟨b,o,us,e,_,h5,_,h6⟩:=RR.get (i:=0) h4 rfl
    cases e
    obtain ⟨u,rfl⟩:∃ u,us=[u]:=by match us,h5 with|[u],_=>exact ⟨u,rfl⟩
    exact hF.1 b _ (h6 0 u rfl).1
 rintro e w' ⟨c,rfl,hr,hb⟩
 obtain ⟨us,rfl,h5,h6,_⟩:=rdl_of_repF (F:=F.all w w') (fun b hb o=> .inr hb) _ _ hr
 exact ⟨_,F.all w w',rfl,hb,Ft.all_new _ _ _,_,rfl,_,_,rfl,⟨us,rfl,h5,h6⟩,_,_,rfl,by simp only [RA,RD],rfl⟩

set_option maxRecDepth 100000
set_option maxHeartbeats 4000000
theorem ptrTy_intp:PtrTy Tryz.prog 107:=⟨_,Tryz.underlying107⟩
def ptrsD (l:List D):List D:=[.pt l,.pt (l.drop 1),.pt (l.drop 2),.pt (l.drop 3),.pt (l.drop 4),.pt (l.drop 5),.pt (l.drop 6),.c (.pointer none),.pt (l.drop 39),.pt (l.drop 40),.pt (l.drop 41)]
theorem gfields_spec (h:Hd):Spec Tryz.prog 68 [.one (.pt (handD h))] (.r1 (.agg (ptrsD (handD h)))):=by
 refine spec_of T_ok Tryz.func68 (by dsimp only [Tryz.f68]) rfl rfl (by simp) fun w F=>?_
 repeat' (first |(with_reducible refine aw_seq ?_)|((with_reducible refine And.intro ?_ ?_);(focus (rfl)))|((first |((with_reducible refine aw_regionA T_ok ?_ ?_);kernel_rfl)|((with_reducible refine aw_drawnA T_ok ?_ ?_ ?_ ?_);kernel_rfl;kernel_rfl;(focus (decide+kernel)))|(with_reducible refine aw_ret ?_) );simp only [↓avP,avQ,avR,forall_const,implies_true,Nat.reduceEqDiff,Nat.reduceAdd,Nat.reduceLeDiff,reduceCtorEq,avS,ptrsD,ty_36,ty_30,ty_34,ty_108,ty_107]))
 all_goals exact Sub.of_eq (by simp [ptrsD])
def intV (n:Int):Cd.V:= .mk 1 n [] []
def msgV (h:Hd):Cd.V:= .mk 3 0 [] [intV h.line,intV h.at_,intV h.arr,intV h.leg,intV h.frm,intV h.to_,intV h.many,.mk 2 0 h.root.toList [],intV h.time,intV h.se,intV h.ss]
def msg (h:Hd):List UInt8:=(msgV h).enc
def hOk (h:Hd):Prop:=Cd.i64R h.line∧Cd.i64R h.at_∧Cd.i64R h.arr∧Cd.i64R h.leg∧Cd.i64R h.frm∧Cd.i64R h.to_∧Cd.i64R h.many∧Cd.i64R h.time∧Cd.i64R h.se∧Cd.i64R h.ss
theorem msg_ok (h:Hd):(msgV h).ok=true:=by simp [msgV,intV,Cd.V.ok,Cd.V.oks]
theorem msg_depth (h:Hd):(msgV h).depth=1:=by simp [msgV,intV,Cd.V.depth,Cd.V.depths]
theorem msg_chk (h:Hd):(msgV h).chk=0:=by unfold Cd.V.chk;rw [msg_ok,msg_depth];rfl
theorem msg_out (h:Hd):(msgV h).out=msg h:=by unfold Cd.V.out;rw [msg_chk];rfl
theorem msg_len (h:Hd):(msg h).length≤200:=by
 have:=Cd.num_le
 simp only [msg,msgV,intV,Cd.V.enc,Cd.V.encs]
 simp only [if_true,if_false,reduceIte,Int.reduceEq,Nat.zero_add,Nat.reduceAdd,List.length_append,List.length_cons,List.length_nil,Vector.length_toList]
 have h1:=this (Cd.zz h.line);have h2:=this (Cd.zz h.at_);have h3:=this (Cd.zz h.arr);have h4:=this (Cd.zz h.leg);have h5:=this (Cd.zz h.frm);have h6:=this (Cd.zz h.to_);have h7:=this (Cd.zz h.many)
 have h8:=this (Cd.zz h.time);have h9:=this (Cd.zz h.se);have h10:=this (Cd.zz h.ss);have h11:=this 32;have h12:=this 11
 omega
theorem msg_vOk (h:Hd) (hh:hOk h):vOk (msgV h):=by
 obtain ⟨h1,h2,h3,h4,h5,h6,h7,h8,h9,h10⟩:=hh
 have z:∀ n:Int,0≤n→n≤3→Cd.i64R n:=fun n a b=>⟨by omega,by omega⟩
 simp only [msgV,intV,vOk,vsOk,and_true,List.length_nil,Vector.length_toList]
 have z0:=z 0 (by omega) (by omega);have z1:=z 1 (by omega) (by omega);have z2:=z 2 (by omega) (by omega);have z3:=z 3 (by omega) (by omega)
 repeat' (first |assumption|exact Nat.zero_le _|decide|(refine ⟨?_,?_⟩))
theorem spec_arg {P:Program} {f:FuncId} {ds es:List D} {r:Ret} (h:Spec P f [.agg es] r) (hs:SubDL ds es):Spec P f [.agg ds] r:=by
 intro F w us hF hus
 simp only [RAL] at hus
 obtain ⟨u,rr,rfl,⟨cs,rfl,h1,h2⟩,rfl⟩:=hus
 exact h F w _ hF ⟨_,_,rfl,⟨cs,rfl,hs.ok h1,h2⟩,rfl⟩
def intC (n:Int):List D:=[cI 1,cI n,.c (.string ⟨#[]⟩),.c (.slice none 0 0)]
def textC (l:List UInt8):List D:=[cI 2,cI 0,.c (.string (strL l)),.c (.slice none 0 0)]
def msgC (h:Hd):List (List D):=[intC h.line,intC h.at_,intC h.arr,intC h.leg,intC h.frm,intC h.to_,intC h.many,textC h.root.toList,intC h.time,intC h.se,intC h.ss]
theorem sub_int (n:Int):SubDL (intC n) (valD (intV n)):=⟨.refl _,.refl _,.refl _,.of _ _ rfl,trivial⟩
theorem sub_text (l:List UInt8):SubDL (textC l) (valD (.mk 2 0 l [])):=⟨.refl _,.refl _,.refl _,.of _ _ rfl,trivial⟩
theorem sub_msg (h:Hd) (d0:List D):SubDL [cI 3,cI 0,.c (.string ⟨#[]⟩),.sl 4 d0 (msgC h)] (valD (msgV h)):=
 ⟨.refl _,.refl _,.refl _,.sl ⟨sub_int _,sub_int _,sub_int _,sub_int _,sub_int _,sub_int _,sub_int _,sub_text _,sub_int _,sub_int _,sub_int _,trivial⟩,trivial⟩
theorem encMsg_spec (h:Hd) (hh:hOk h) (d0:List D):Spec Tryz.prog 81 [.agg [cI 3,cI 0,.c (.string ⟨#[]⟩),.sl 4 d0 (msgC h)]] (.rt [.one (bsD (msg h)),aI 0]):=by
 have:=cdEnc_spec (msgV h) (msg_vOk h hh) (by rw [msg_depth];omega) (by have:=msg_len h;unfold msg at this;omega)
 rw [msg_out,msg_chk] at this
 exact spec_arg this (sub_msg h d0)
theorem gmessage_spec (h:Hd) (hh:hOk h):Spec Tryz.prog 49 [.agg (handD h)] (.r1 (.one (.c (.string (strL (msg h)))))):=by
 refine spec_of T_ok Tryz.func49 (by dsimp only [Tryz.f49]) rfl rfl (by simp) fun w F=>?_
 repeat' (first |(with_reducible first |refine aw_seq ?_|refine aw_stop (id:=2) ?_)|((((with_reducible refine aw_regionA T_ok ?_ ?_);kernel_rfl) );simp only [↓avP,avQ,avR,forall_const,implies_true,Nat.reduceEqDiff,reduceCtorEq]))
 refine ⟨?_⟩
 refine aw_frzC 0 (handD h) rfl rfl ?_
 simp only [frzP,frzPV,if_true,reduceIte,List.drop_zero,delB]
 repeat' (first |(with_reducible refine aw_seq ?_)|((with_reducible refine two_intro ?_ ?_)<;>intro h<;>first |contradiction|((first |(guard_hyp h:true=true;clear h)|(guard_hyp h:false=false;clear h)|(revert h;intro _))))|((with_reducible refine And.intro ?_ ?_);(focus (first |exact ptrTy_intp|omega|rfl|decide)))|(with_reducible refine aw_block ?_)|((first |(with_reducible refine aw_unroll 12 ?_)|((with_reducible refine un_step ?_ ?_);(focus decide))|((with_reducible refine aw_regionA T_ok ?_ ?_);kernel_rfl)|((with_reducible refine callI_spec (gfields_spec _) (by repeat' (first |exact ta_n|refine ta_d ?_)) ?_ ?_ ?_);kernel_rfl;kernel_rfl)|((with_reducible refine callI_spec (encMsg_spec h hh _) (by repeat' (with_unfolding_all rfl)) ?_ ?_ ?_);kernel_rfl;kernel_rfl)|(with_reducible first |refine aw_skip ?_|refine aw_exit ?_)|((with_reducible refine aw_condM ?_ ?_);kernel_rfl)|(with_reducible refine aw_ret ?_) );simp only [↓avP,avQ,avR,forall_const,implies_true,Nat.reduceEqDiff,Nat.reduceAdd,Nat.reduceSub,Int.reduceToNat,Nat.reduceLeDiff,Nat.reduceLT,reduceCtorEq,avS,handS,ptrsD,Int.reduceAdd,u8s_by,strOf_by,rootD_by,ty_3,ty_36,ty_32,ty_108,ty_107,ty_79,ty_76,ty_50,ty_9,ty_5,List.length_drop];try simp (disch:=omega) only [av_w]))
 all_goals exact Sub.refl _
def cmpB (a b:List UInt8):Int:=Lib.compareBytes a b
theorem cmpString_spec (a b:List UInt8):Spec Tryz.prog 107 [.one (.c (.string (strL a))),.one (.c (.string (strL b)))] (.r1 (aI (cmpB a b))):=by
 intro F w us hF hus
 simp only [RAL,RA,RD] at hus
 obtain ⟨u,r,rfl,rfl,u2,r2,rfl,rfl,rfl⟩:=hus
 refine Calls.mono (R:=fun e w'=>e= .returned (.int .i64 (Lib.compareBytes a b))∧w'=w) ?_ ?_
 ·go_enter Tryz.func107,Tryz.ntmps107
  go_wp2
  rw [run_callFunc_extern Tryz.func122 (by kernel_rfl) (by kernel_rfl) (by kernel_rfl) (e:=Extern.BytealgCompare.compare) (by kernel_rfl),Lib.run_compareString]
  simp only [Result.andThen]
  rw [Oper.upon_value]
  go_wp2
  go_ret
  exact ⟨rfl,rfl⟩
 ·rintro e w' ⟨rfl,rfl⟩
  exact ⟨_,F,rfl,Below.refl _ _,⟨Ft.le_refl _,fun _ _ h=> .inl h,fun _ h=> .inl h⟩,by simp only [RRet,RA,RD];rfl⟩
theorem strCompare_spec (a b:List UInt8):Spec Tryz.prog 90 [.one (.c (.string (strL a))),.one (.c (.string (strL b)))] (.r1 (aI (cmpB a b))):=by
 refine spec_of T_ok Tryz.func90 (by dsimp only [Tryz.f90]) rfl rfl (by simp) fun w F=>?_
 repeat' (first |(with_reducible refine aw_seq ?_)|((first |((with_reducible refine aw_regionA T_ok ?_ ?_);kernel_rfl)|((with_reducible refine callI_spec (cmpString_spec _ _) (by repeat' (first |exact ta_n|refine ta_d ?_)) ?_ ?_ ?_);kernel_rfl;kernel_rfl)|(with_reducible refine aw_ret ?_) );simp only [↓avP,avQ,avR,forall_const,implies_true,Nat.reduceEqDiff,Nat.reduceAdd,reduceCtorEq,avS]))
 all_goals exact Sub.refl _
theorem gcompare_spec (a b:Hd) (ha:hOk a) (hb:hOk b):Spec Tryz.prog 66 [.agg (handD a),.agg (handD b)] (.r1 (aI (cmpB (msg a) (msg b)))):=by
 refine spec_of T_ok Tryz.func66 (by dsimp only [Tryz.f66]) rfl rfl (by simp) fun w F=>?_
 repeat' (first |(with_reducible refine aw_seq ?_)|((first |((with_reducible refine aw_regionA T_ok ?_ ?_);kernel_rfl)|((with_reducible refine aw_drawnA T_ok ?_ ?_ ?_ ?_);kernel_rfl;kernel_rfl;(focus (decide+kernel)))|((with_reducible refine callK_intro (gmessage_spec a ha) ?_ ?_ ?_);(focus (((repeat' (first |exact ta_n|refine ta_a ?_));done)));kernel_rfl)|((with_reducible refine callK_intro (gmessage_spec b hb) ?_ ?_ ?_);(focus (((repeat' (first |exact ta_n|refine ta_a ?_));done)));kernel_rfl)|((with_reducible refine callK_intro (strCompare_spec _ _) (by repeat' (first |exact ta_n|refine ta_d ?_)) ?_ ?_);kernel_rfl)|(with_reducible refine aw_ret ?_) );simp only [↓avP,avQ,avR,forall_const,implies_true,Nat.reduceEqDiff,Nat.reduceAdd,Nat.reduceLeDiff,reduceCtorEq,avS,handS,ty_36]))
 all_goals exact Sub.refl _

theorem hd_t0 (h:Hd) (x:Int):splice (dV (handD h)) 0 [vI x]=dV (handD { h with line:=x }):=rfl
theorem hd_t1 (h:Hd) (x:Int):splice (dV (handD h)) 1 [vI x]=dV (handD { h with at_:=x }):=rfl
theorem hd_t2 (h:Hd) (x:Int):splice (dV (handD h)) 2 [vI x]=dV (handD { h with arr:=x }):=rfl
theorem hd_t3s (h:Hd) (x:Int):splice (dV (handD h)) 3 [vI x]=dV (handD { h with leg:=x }):=rfl
theorem hd_t4 (h:Hd) (x:Int):splice (dV (handD h)) 4 [vI x]=dV (handD { h with frm:=x }):=rfl
theorem hd_t5 (h:Hd) (x:Int):splice (dV (handD h)) 5 [vI x]=dV (handD { h with to_:=x }):=rfl
def hd7 (h:Hd):List V:=[vI h.line,vI h.at_,vI h.arr,vI h.leg,vI h.frm,vI h.to_,vI h.many]
theorem hd_parts (h:Hd):dV (handD h)=hd7 h++(dV (rootD h.root.toList)++[vI h.time,vI h.se,vI h.ss]):=by
 simp [handD,hd7,dV,tailD]
theorem hd_pre (h:Hd):(hd7 h++dV (rootD h.root.toList)).length=39:=by simp [hd7,dV,rootD_ln]
theorem splice_app (a b c:List V) (k:Nat) (h:k=a.length+b.length) (x y:List V) (hx:c=x++y) (z:List V) (hz:z.length=x.length):splice (a++(b++c)) k z=a++(b++(z++y)):=by
 subst h hx
 unfold splice
 rw [← List.append_assoc,← List.append_assoc,show a.length+b.length=(a++b).length by simp,List.append_assoc (a++b),List.take_left' rfl,hz,List.drop_append,List.drop_eq_nil_of_le (by omega),Nat.add_sub_cancel_left,List.drop_left' rfl]
 simp
theorem hd_s39 (h:Hd) (x:Int):splice (dV (handD h)) 39 [vI x]=dV (handD { h with time:=x }):=by
 rw [hd_parts,hd_parts]
 exact splice_app (hd7 h) _ _ 39 (by have:=hd_pre h;simpa using this.symm) [vI h.time] [vI h.se,vI h.ss] rfl [vI x] rfl
theorem hd_s40a (h:Hd) (x:Int):splice (dV (handD h)) 40 [vI x]=dV (handD { h with se:=x }):=by
 rw [hd_parts,hd_parts]
 have:=splice_app (hd7 h) (dV (rootD h.root.toList)++[vI h.time]) [vI h.se,vI h.ss] 40 (by have:=hd_pre h;simp at this ⊢;omega) [vI h.se] [vI h.ss] rfl [vI x] rfl
 simp only [List.append_assoc,List.cons_append,List.nil_append] at this
 exact this
theorem hd_s41 (h:Hd) (x:Int):splice (dV (handD h)) 41 [vI x]=dV (handD { h with ss:=x }):=by
 rw [hd_parts,hd_parts]
 have:=splice_app (hd7 h) (dV (rootD h.root.toList)++[vI h.time,vI h.se]) [vI h.ss] 41 (by have:=hd_pre h;simp at this ⊢;omega) [vI h.ss] [] rfl [vI x] rfl
 simp only [List.append_assoc,List.cons_append,List.nil_append] at this
 exact this
theorem hd_s7 (h:Hd) (r:Vector UInt8 32):splice (dV (handD h)) 7 (bytesV (strL r.toList))=dV (handD { h with root:=r }):=by
 rw [hd_parts,hd_parts]
 have:=splice_app (hd7 h) [] (dV (rootD h.root.toList)++[vI h.time,vI h.se,vI h.ss]) 7 rfl (dV (rootD h.root.toList)) _ rfl (bytesV (strL r.toList)) (by simp [bytesV,strL,dV,rootD])
 rw [List.nil_append,List.nil_append] at this
 rw [this]
 congr 1
 simp [bytesV,strL,dV,rootD]
def zHandV:Value:= .agg ((List.replicate 7 (Value.int .i64 0)++List.replicate 32 (Value.int .u8 0)++List.replicate 3 (Value.int .i64 0)).toArray)
theorem ty_H:ty T 36=some ⟨.struct [(0,3),(3,1),(4,1),(5,1),(6,1),(7,32),(39,1),(40,2)],42,zHandV,112⟩:=by kernel_rfl
theorem zH_one:allOne zHandV=true:=by kernel_rfl
theorem zH_cells:zcells zHandV=dV (handD default):=by kernel_rfl
theorem zH_map:List.map (fun c=>V.d (D.c c)) zHandV.cells.toList=dV (handD default):=by kernel_rfl
theorem hd_dr (h:Hd):List.drop 42 (dV (handD h))=[]:=List.drop_eq_nil_of_le (by rw [hd_sz];exact Nat.le_refl _)
theorem zH_D:zD zHandV=handD default:=by kernel_rfl
def vK:Cd.V→Int
 | .mk k _ _ _=>k
def vN:Cd.V→Int
 | .mk _ n _ _=>n
def vS:Cd.V→List UInt8
 | .mk _ _ s _=>s
def vL:Cd.V→List Cd.V
 | .mk _ _ _ l=>l
def val4 (v:Cd.V):List D:=[cI (vK v),cI (vN v),.c (.string (strL (vS v))),.sl 4 val0 (valsD (vL v))]
theorem val4_eq (v:Cd.V):valD v=val4 v:=by cases v;rfl
def rootOf (s:List UInt8):Vector UInt8 32:=if h:s.toArray.size=32 then ⟨s.toArray,h⟩ else Vector.replicate 32 0
def elOk (i:Nat) (e:Cd.V):Bool:=if i=7 then (vK e==2)&&(((vS e).length:Int)==32) else vK e==1
def setF (i:Nat) (e:Cd.V) (h:Hd):Hd:=match i with
 |0=>{ h with line:=vN e }
 |1=>{ h with at_:=vN e }
 |2=>{ h with arr:=vN e }
 |3=>{ h with leg:=vN e }
 |4=>{ h with frm:=vN e }
 |5=>{ h with to_:=vN e }
 |6=>{ h with many:=vN e }
 |7=>{ h with root:=rootOf (vS e) }
 |8=>{ h with time:=vN e }
 |9=>{ h with se:=vN e }
 |_=>{ h with ss:=vN e }
def elAt (l:List Cd.V) (k:Nat):Cd.V:=l.getD k Cd.V.zero
def hS (l:List Cd.V):Nat→Hd
 |0=>default
 |k+1=>setF k (elAt l k) (hS l k)
def badF (l:List Cd.V):Nat→Nat→Nat
 |k,0=>k
 |k,f+1=>if elOk k (elAt l k) then badF l (k+1) f else k
theorem badF_eq (l:List Cd.V) (k:Nat) (h0:∀ i,i < k→elOk i (elAt l i)=true) (h1:elOk k (elAt l k)=false):∀ f j,j≤k→k < j+f→badF l j f=k
 |0,j,h2,h3=>by omega
 |f+1,j,h2,h3=>by
   unfold badF
   by_cases hj:j=k
   ·subst hj;rw [h1];simp
   ·rw [if_pos (h0 j (by omega))]
    exact badF_eq l k h0 h1 f (j+1) (by omega) (by omega)
theorem badF_all (l:List Cd.V):∀ f j,(∀ i,i < j+f→elOk i (elAt l i)=true)→badF l j f=j+f
 |0,j,_=>rfl
 |f+1,j,h=>by
   unfold badF
   rw [if_pos (h j (by omega)),badF_all l f (j+1) fun i hi=>h i (by omega)]
   omega
def rdV (v:Cd.V):Hd×Bool:=if vK v=3∧(vL v).length=11 then (hS (vL v) (badF (vL v) 0 11),decide (badF (vL v) 0 11=11)&&formB (hS (vL v) 11)) else (default,false)
def readH (b:List UInt8):Hd×Bool:=match Cd.dec b with
 |some v=>rdV v
 |none=>(default,false)
abbrev ptrsV:List V:=[.ptr 0 0,.ptr 0 1,.ptr 0 2,.ptr 0 3,.ptr 0 4,.ptr 0 5,.ptr 0 6,.d (.c (.pointer none)),.ptr 0 39,.ptr 0 40,.ptr 0 41]
def offF (k:Nat):Nat:=if k < 7 then k else 31+k
theorem hix:∀ k,k < 11→k≠7→ptrsV[k]? =some (.ptr 0 (offF k))
 |0,_,_=>rfl
 |1,_,_=>rfl
 |2,_,_=>rfl
 |3,_,_=>rfl
 |4,_,_=>rfl
 |5,_,_=>rfl
 |6,_,_=>rfl
 |7,_,h=>absurd rfl h
 |8,_,_=>rfl
 |9,_,_=>rfl
 |10,_,_=>rfl
 |k+11,h,_=>absurd h (by omega)
theorem hstF (h:Hd) (e:Cd.V):∀ k,k < 11→k≠7→splice (dV (handD h)) (offF k) [vI (vN e)]=dV (handD (setF k e h))
 |0,_,_=>hd_t0 h _
 |1,_,_=>hd_t1 h _
 |2,_,_=>hd_t2 h _
 |3,_,_=>hd_t3s h _
 |4,_,_=>hd_t4 h _
 |5,_,_=>hd_t5 h _
 |6,_,_=>hd_s6 h _
 |7,_,h=>absurd rfl h
 |8,_,_=>hd_s39 h _
 |9,_,_=>hd_s40a h _
 |10,_,_=>hd_s41 h _
 |k+11,h,_=>absurd h (by omega)
theorem hst7 (h:Hd) (e:Cd.V) (he:(vS e).length=32):splice (dV (handD h)) 7 (bytesV (strL (vS e)))=dV (handD (setF 7 e h)):=by
 have hz:(vS e).toArray.size=32:=by simpa using he
 have hr:rootOf (vS e)=⟨(vS e).toArray,hz⟩:=by rw [rootOf,dif_pos hz]
 have:=hd_s7 h ⟨(vS e).toArray,hz⟩
 simp only [setF,hr]
 rw [← this]
 rfl
theorem getD_vals (l:List Cd.V) (k:Nat) (hk:k < l.length):(valsD l).getD k val0=val4 (elAt l k):=by
 rw [valsD_map,elAt,← val4_eq]
 simp [List.getD_eq_getElem?_getD,List.getElem?_map,List.getElem?_eq_getElem hk]
theorem fits_at:∀ (l:List Cd.V) (k:Nat),Cd.V.fitss l→k < l.length→(elAt l k).fits
 |v :: l,0,h,_=>h.1
 |v :: l,k+1,h,hk=>fits_at l k h.2 (by simpa using hk)
theorem dec_fits {b:List UInt8} {v:Cd.V} (hb:b.length≤1000000) (h:Cd.dec b=some v):v.fits:=by
 unfold Cd.dec at h
 split at h
 ·rename_i v' h'
  cases h
  exact (Cd.V.enc_dec 16 b v [] (by omega) h').2.2.2
 ·cases h
theorem vN_R {v:Cd.V} (h:v.fits):Cd.i64R (vN v):=by cases v;exact h.2.1
theorem hmany (b:List UInt8) (l:List Cd.V) (n:Int) (t:List UInt8) (hb:b.length≤1000000) (hd:Cd.dec b=some (.mk 3 n t l)) (h11:l.length=11): -9223372036854775808≤(hS l 11).many∧(hS l 11).many≤9223372036854775807:=
 vN_R (fits_at l 6 (dec_fits hb hd).2.2.2.2 (by omega))
theorem gread_spec (b:List UInt8) (hb:b.length≤1000000):Spec Tryz.prog 33 [.one (bsD b)] (.rt [.agg (handD (readH b).1),aB (readH b).2]):=by
 have hc:=cdDec_spec b hb
 unfold readH
 cases hd:Cd.dec b with
 |none=>
   rw [hd,Option.getD_none,val4_eq,val4] at hc
   refine spec_of T_ok Tryz.func33 (by dsimp only [Tryz.f33]) rfl rfl (by simp) fun w F=>?_
   repeat' (first |(with_reducible refine aw_seq ?_)|((with_reducible refine two_intro ?_ ?_)<;>intro h<;>first |contradiction|(((revert h;intro _))))|((with_reducible refine And.intro ?_ ?_);(focus (rfl)))|((first |((with_reducible refine aw_regionA T_ok ?_ ?_);kernel_rfl)|((with_reducible refine aw_drawnA T_ok ?_ ?_ ?_ ?_);kernel_rfl;kernel_rfl;(focus (decide+kernel)))|((with_reducible refine callI_spec (hc) ?_ ?_ ?_ ?_);(focus (with_unfolding_all rfl));kernel_rfl;kernel_rfl)|((with_reducible apply callI_in T_ok Tryz.func68);(focus (dsimp only [Tryz.f68]));(focus rfl);(focus rfl);kernel_rfl;(focus exact of_decide_eq_true (by kernel_rfl));(focus (kernel_rfl));kernel_rfl;intro _)|((with_reducible refine aw_condM ?_ ?_);kernel_rfl)|(with_reducible refine aw_ret ?_) );simp only [↓avP,avQ,avR,forall_const,implies_true,Nat.reduceEqDiff,Nat.reduceAdd,Nat.reduceSub,Nat.reduceLeDiff,reduceCtorEq,avS,handS,ty_3,↓zH_one,hd_dr,zH_map,ty_H,ty_30,ty_34,ty_108,ty_107,ty_79,ty_76]))
   exact ⟨Sub.refl _,Sub.refl _⟩
 |some v=>
   rw [hd,Option.getD_some,val4_eq,val4] at hc
   obtain ⟨k,n,t,l⟩:=v
   simp only [vK,vN,vS,vL] at hc
   cases h3:(k != 3) with
   |true=>
     have h3':k≠3:=by simpa using h3
     refine spec_of T_ok Tryz.func33 (by dsimp only [Tryz.f33]) rfl rfl (by simp) fun w F=>?_
     repeat' (first |(with_reducible first |refine aw_seq ?_|refine two_t ?_)|((with_reducible refine And.intro ?_ ?_);(focus (rfl)))|((first |((with_reducible refine aw_regionA T_ok ?_ ?_);kernel_rfl)|((with_reducible refine aw_drawnA T_ok ?_ ?_ ?_ ?_);kernel_rfl;kernel_rfl;(focus (decide+kernel)))|((with_reducible refine callI_spec (hc) ?_ ?_ ?_ ?_);(focus (with_unfolding_all rfl));kernel_rfl;kernel_rfl)|((with_reducible apply callI_in T_ok Tryz.func68);(focus (dsimp only [Tryz.f68]));(focus rfl);(focus rfl);kernel_rfl;(focus exact of_decide_eq_true (by kernel_rfl));(focus (kernel_rfl));kernel_rfl;intro _)|((with_reducible refine aw_condM ?_ ?_);kernel_rfl)|(with_reducible refine aw_ret ?_) );simp only [↓avP,avQ,avR,forall_const,implies_true,Nat.reduceEqDiff,Nat.reduceAdd,Nat.reduceSub,Nat.reduceLeDiff,reduceCtorEq,avS,handS,ty_3,↓zH_one,hd_dr,zH_map,ty_H,ty_30,ty_34,ty_108,ty_107,ty_79,ty_76,h3]))
     simp only [rdV,vK,h3',false_and,if_false]
     exact ⟨Sub.refl _,Sub.refl _⟩
   |false=>
   obtain rfl:k=3:=by simpa using h3
   by_cases h11:l.length=11
   ·refine spec_of T_ok Tryz.func33 (by dsimp only [Tryz.f33]) rfl rfl (by simp) fun w F=>?_
    have hln:((l.length:Int) != 11)=false:=by simp;omega
    repeat' (first |(with_reducible refine aw_seq ?_)|((with_reducible refine two_intro ?_ ?_)<;>intro h<;>first |contradiction|((first |(guard_hyp h:true=true;clear h)|(revert h;intro _))))|((with_reducible refine And.intro ?_ ?_);(focus (rfl)))|(with_reducible refine aw_block ?_)|((first |((with_reducible refine aw_regionA T_ok ?_ ?_);kernel_rfl)|((with_reducible refine aw_drawnA T_ok ?_ ?_ ?_ ?_);kernel_rfl;kernel_rfl;(focus (decide+kernel)))|((with_reducible refine callI_spec (hc) ?_ ?_ ?_ ?_);(focus (with_unfolding_all rfl));kernel_rfl;kernel_rfl)|((with_reducible apply callI_in T_ok Tryz.func68);(focus (dsimp only [Tryz.f68]));(focus rfl);(focus rfl);kernel_rfl;(focus exact of_decide_eq_true (by kernel_rfl));(focus (kernel_rfl));kernel_rfl;intro _)|(with_reducible refine aw_skip ?_)|((with_reducible refine aw_condM ?_ ?_);kernel_rfl)|(with_reducible refine aw_ret ?_) );simp only [↓avP,avQ,avR,forall_const,implies_true,Nat.reduceEqDiff,Nat.reduceAdd,Nat.reduceSub,Nat.reduceLeDiff,reduceCtorEq,avS,handS,ty_3,↓zH_one,hd_dr,zH_map,ty_H,ty_30,ty_34,ty_108,ty_107,ty_79,ty_76,hln,valsD_len]))
    refine aw_loopI (fun k:Nat=>⟨[(2,.ptr 0 0),(3,vB false),(4,.ptr 1 0),(30,.agg ptrsV),(31,vI k)],[(1,.cells 79 [.d (cI 3),.d (cI n),.d (.c (.string (strL t))),.d (.sl 4 val0 (valsD l))]),(0,.cells 36 (dV (handD (hS l k))))],2⟩) (fun k=>k≤11∧∀ i,i < k→elOk i (elAt l i)=true) (fun k=>11 - k) 0 ⟨Nat.zero_le _,fun i hi=>absurd hi (Nat.not_lt_zero i)⟩ (wk_of [(0,some 0),(1,some 1)] rfl rfl ?_ ?_) ?_
    ·simp only [wkA,reduceIte,Nat.reduceEqDiff]
     (repeat' (first |rfl|exact subVs_d _ _))
    ·simp only [wkA,reduceIte,Nat.reduceEqDiff,hS]
     (repeat' (first |rfl|exact subVs_d _ _))
    rintro k ⟨hk,h0⟩
    have hv:rdV (.mk 3 n t l)=(hS l (badF l 0 11),decide (badF l 0 11=11)&&formB (hS l 11)):=by rw [rdV,if_pos ⟨rfl,h11⟩];rfl
    rw [hv]
    rcases Nat.lt_or_ge k 11 with hlt|hge
    ·have hd2:decide ((k:Int) < 11)=true:=decide_eq_true (by omega)
     have hge:=getD_vals l k (by omega)
     rw [val4] at hge
     have hbad:elOk k (elAt l k)=false→badF l 0 11=k:=fun h=>badF_eq l k h0 h 11 0 (Nat.zero_le _) (by omega)
     have hnext:elOk k (elAt l k)=true→∀ i,i < k+1→elOk i (elAt l i)=true:=fun h i hi=>by
      rcases Nat.lt_succ_iff_lt_or_eq.1 hi with h'|rfl
      ·exact h0 i h'
      ·exact h
     by_cases h7:k=7
     ·have hnn:ptrsV[k]? =some (.d (.c (.pointer none))):=by rw [h7];rfl
      cases hk1:(vK (elAt l k)==2) with
      |false=>
        have hb:=hbad (by rw [elOk,if_pos h7,hk1];rfl)
        repeat' (first |(with_reducible first |refine aw_seq ?_|refine two_t ?_|refine two_f ?_)|((with_reducible refine And.intro ?_ ?_);(focus (first |exact ptrTy_intp|omega|rfl)))|(with_reducible refine aw_block ?_)|((first |((with_reducible refine aw_regionA T_ok ?_ ?_);kernel_rfl)|(with_reducible refine aw_skip ?_)|((with_reducible refine aw_condM ?_ ?_);kernel_rfl)|(with_reducible refine aw_ret ?_) );simp only [↓avP,avQ,avR,forall_const,implies_true,Nat.reduceEqDiff,Nat.reduceAdd,Nat.reduceLeDiff,reduceCtorEq,avS,handS,ty_3,hd_dr,ty_H,ty_108,ty_107,ty_79,ty_76,ty_9,hd2,hge,hnn,hk1,valsD_len,h11]))
        rw [hb]
        refine ⟨Sub.refl _,Sub.of_eq (congrArg aB ?_)⟩
        rw [decide_eq_false (by omega),Bool.false_and]
      |true=>
      cases hk2:(((vS (elAt l k)).length:Int)==32) with
      |false=>
        have hb:=hbad (by rw [elOk,if_pos h7,hk2,Bool.and_false])
        repeat' (first |(with_reducible first |refine aw_seq ?_|refine two_t ?_|refine two_f ?_)|((with_reducible refine And.intro ?_ ?_);(focus (first |exact ptrTy_intp|omega|rfl)))|(with_reducible refine aw_block ?_)|((first |((with_reducible refine aw_regionA T_ok ?_ ?_);kernel_rfl)|(with_reducible refine aw_skip ?_)|((with_reducible refine aw_condM ?_ ?_);kernel_rfl)|(with_reducible refine aw_ret ?_) );simp only [↓avP,avQ,avR,forall_const,implies_true,Nat.reduceEqDiff,Nat.reduceAdd,Nat.reduceLeDiff,reduceCtorEq,avS,handS,ty_3,hd_dr,ty_H,ty_108,ty_107,ty_79,ty_76,ty_9,hd2,hge,hnn,hk1,hk2,str_sz,valsD_len,h11]))
        rw [hb]
        refine ⟨Sub.refl _,Sub.of_eq (congrArg aB ?_)⟩
        rw [decide_eq_false (by omega),Bool.false_and]
      |true=>
        have hn2:=hnext (by rw [elOk,if_pos h7,hk1,hk2];rfl)
        have hsl:(vS (elAt l k)).length=32:=by have:=beq_iff_eq.1 hk2;omega
        have hs:=hst7 (hS l k) (elAt l k) hsl
        have hs':setF 7 (elAt l k) (hS l k)=hS l (k+1):=by rw [hS,h7]
        rw [hs'] at hs
        unfold splice at hs
        repeat' (first |(with_reducible refine aw_seq ?_)|((with_reducible refine two_intro ?_ ?_)<;>intro h<;>first |contradiction|((first |(guard_hyp h:true=true;clear h)|(revert h;intro _))))|((with_reducible refine And.intro ?_ ?_);(focus (first |exact ptrTy_intp|omega|rfl)))|(with_reducible refine aw_block ?_)|((first |((with_reducible refine aw_regionA T_ok ?_ ?_);kernel_rfl)|((with_reducible refine aw_drawnA T_ok ?_ ?_ ?_ ?_);kernel_rfl;kernel_rfl;(focus (decide+kernel)))|(with_reducible refine aw_skip ?_)|((with_reducible refine aw_condM ?_ ?_);kernel_rfl) );simp only [↓avP,avQ,avR,forall_const,implies_true,Nat.reduceEqDiff,Nat.reduceAdd,Nat.reduceLeDiff,reduceCtorEq,handS,ty_3,ty_H,ty_32,ty_108,ty_107,ty_79,ty_76,ty_50,ty_9,ty_5,hd2,hge,hnn,hk1,hsl,hs,str_sz,valsD_len,h11];try simp (disch:=omega) only [av_w]))
        refine ⟨k+1,⟨by omega,hn2⟩,by dsimp only;omega,wk_of [(0,some 0),(1,some 1)] rfl rfl ?_ ?_⟩
        ·simp only [wkA,reduceIte,Nat.reduceEqDiff]
         (repeat' (first |rfl|exact subVs_d _ _))
        ·simp only [wkA,reduceIte,Nat.reduceEqDiff]
         (repeat' (first |rfl|exact subVs_d _ _))
     ·have hi:=hix k hlt h7
      have hs:=hstF (hS l k) (elAt l k) k hlt h7
      rw [← hS] at hs
      have ho:offF k≤41:=by unfold offF;split<;>omega
      cases hk1:(vK (elAt l k)==1) with
      |true=>
        have hn2:=hnext (by rw [elOk,if_neg h7,hk1])
        repeat' (first |(with_reducible first |refine aw_seq ?_|refine two_t ?_|refine two_f ?_)|((with_reducible refine And.intro ?_ ?_);(focus (first |exact ptrTy_intp|omega|rfl)))|(with_reducible refine aw_block ?_)|((first |((with_reducible refine aw_regionA T_ok ?_ ?_);kernel_rfl)|(with_reducible refine aw_skip ?_)|((with_reducible refine aw_condM ?_ ?_);kernel_rfl)|(with_reducible refine aw_ret ?_) );simp only [↓avP,avQ,avR,forall_const,implies_true,Nat.reduceEqDiff,Nat.reduceAdd,Nat.reduceLeDiff,reduceCtorEq,avS,handS,ty_3,hd_dr,ty_H,ty_108,ty_107,ty_79,ty_76,ty_9,hd2,hge,hi,ho,↓hs,hk1,valsD_len,h11];try simp (disch:=omega) only [avW]))
        refine ⟨k+1,⟨by omega,hn2⟩,by dsimp only;omega,wk_of [(0,some 0),(1,some 1)] rfl rfl ?_ ?_⟩
        ·simp only [wkA,reduceIte,Nat.reduceEqDiff]
         (repeat' (first |rfl|exact subVs_d _ _))
        ·simp only [wkA,reduceIte,Nat.reduceEqDiff]
         (repeat' (first |rfl|exact subVs_d _ _))
      |false=>
        have hb:=hbad (by rw [elOk,if_neg h7,hk1])
        repeat' (first |(with_reducible first |refine aw_seq ?_|refine two_t ?_|refine two_f ?_)|((with_reducible refine And.intro ?_ ?_);(focus (first |exact ptrTy_intp|omega|rfl)))|(with_reducible refine aw_block ?_)|((first |((with_reducible refine aw_regionA T_ok ?_ ?_);kernel_rfl)|(with_reducible refine aw_skip ?_)|((with_reducible refine aw_condM ?_ ?_);kernel_rfl)|(with_reducible refine aw_ret ?_) );simp only [↓avP,avQ,avR,forall_const,implies_true,Nat.reduceEqDiff,Nat.reduceAdd,Nat.reduceLeDiff,reduceCtorEq,avS,handS,ty_3,hd_dr,ty_H,ty_108,ty_107,ty_79,ty_76,ty_9,hd2,hge,hi,ho,↓hs,hk1,valsD_len,h11];try simp (disch:=omega) only [avW]))
        rw [hb]
        refine ⟨Sub.refl _,Sub.of_eq (congrArg aB ?_)⟩
        rw [decide_eq_false (by omega),Bool.false_and]
    ·obtain rfl:k=11:=by omega
     have hb11:badF l 0 11=11:=badF_all l 11 0 (fun i hi=>h0 i (by omega))
     have hf:=gformed_spec (hS l 11) (hmany b l n t hb hd h11)
     repeat' (first |(with_reducible refine aw_seq ?_)|((with_reducible refine two_intro ?_ ?_)<;>intro h<;>first |contradiction|(((revert h;intro _))))|((first |((with_reducible refine aw_regionA T_ok ?_ ?_);kernel_rfl)|((with_reducible refine aw_drawnI (id:=15) [3] [] T_ok ?_ ?_ ?_ ?_ ?_);kernel_rfl;kernel_rfl;(focus (decide+kernel));kernel_rfl)|((with_reducible refine callK_intro (hf) ?_ ?_ ?_);(focus (((repeat' (first |exact ta_n|refine ta_a ?_));done)));kernel_rfl)|(with_reducible first |refine fin2_intro ?_|refine aw_exit ?_)|((with_reducible refine aw_condM ?_ ?_);kernel_rfl)|(with_reducible refine aw_ret ?_) );simp only [↓avP,avQ,avR,forall_const,implies_true,Nat.reduceEqDiff,Nat.reduceAdd,Nat.reduceLeDiff,reduceCtorEq,↓sameK.eq_def,sameL,pickOps,avS,handS,hd_dr,ty_H]))
     rw [hb11]
     exact ⟨Sub.refl _,Sub.of_eq (congrArg aB (by simp))⟩
   ·have hln:((l.length:Int) != 11)=true:=by simp;omega
    refine spec_of T_ok Tryz.func33 (by dsimp only [Tryz.f33]) rfl rfl (by simp) fun w F=>?_
    repeat' (first |(with_reducible refine aw_seq ?_)|((with_reducible refine two_intro ?_ ?_)<;>intro h<;>first |contradiction|((first |(guard_hyp h:true=true;clear h)|(revert h;intro _))))|((with_reducible refine And.intro ?_ ?_);(focus (rfl)))|(with_reducible refine aw_block ?_)|((first |((with_reducible refine aw_regionA T_ok ?_ ?_);kernel_rfl)|((with_reducible refine aw_drawnA T_ok ?_ ?_ ?_ ?_);kernel_rfl;kernel_rfl;(focus (decide+kernel)))|((with_reducible refine callI_spec (hc) ?_ ?_ ?_ ?_);(focus (with_unfolding_all rfl));kernel_rfl;kernel_rfl)|((with_reducible apply callI_in T_ok Tryz.func68);(focus (dsimp only [Tryz.f68]));(focus rfl);(focus rfl);kernel_rfl;(focus exact of_decide_eq_true (by kernel_rfl));(focus (kernel_rfl));kernel_rfl;intro _)|(with_reducible refine aw_skip ?_)|((with_reducible refine aw_condM ?_ ?_);kernel_rfl)|(with_reducible refine aw_ret ?_) );simp only [↓avP,avQ,avR,forall_const,implies_true,Nat.reduceEqDiff,Nat.reduceAdd,Nat.reduceSub,Nat.reduceLeDiff,reduceCtorEq,avS,handS,ty_3,↓zH_one,hd_dr,zH_map,ty_H,ty_30,ty_34,ty_108,ty_107,ty_79,ty_76,hln,valsD_len]))
    simp only [rdV,vL,h11,and_false,if_false]
    exact ⟨Sub.refl _,Sub.refl _⟩
end Go.Proofs.YthidfoohhhkobaaGreat
