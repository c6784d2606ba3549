import Derived.Test.YthidfoohhhkobaaGreatG18
import Derived.Test.YthidfoohhhkobaaGreatG9
import Derived.Test.YthidfoohhhkobaaGreatG11
namespace Go.Proofs.YthidfoohhhkobaaGreat.Cd
set_option linter.unusedSimpArgs false
set_option linter.unusedVariables false
open Go.RowKit
attribute [local go_sem ↓] Go.wp_at_zero Go.wp_at_succ
theorem decLen_ok {r r':List UInt8} {n:Nat} (h:decNum r=some (n,r')) (hn:n≤r'.length):decLen r=some (n,r'):=by unfold decLen;rw [h];simp [hn]
set_option maxRecDepth 100000 in
set_option maxHeartbeats 3200000 in
theorem rvalue_3no (d:Nat) (bs:List UInt8) (at_:Nat) (c:UInt8) (R:Nat) (w:World) (hr:RR w R bs at_ false) (hlt:at_ < bs.length) (hc:bs[at_]=c) (hx:c.toNat=3) (dep:Int)
  (hno:decLen (bs.drop (at_+1))=none) (hdn:decV d (bs.drop at_)=none):
  Calls Tryz.prog 94 #[.pointer (some ⟨R,0,none⟩),.int .i64 dep] w (RVal d bs at_ R w):=by
 have HNO:=Lib.hid hno
 have HDN:=Lib.hid hdn
 clear hno hdn
 have H0:=Lib.hid (rv0_of hr)
 have hRl:=hr.lt
 have hnx:=next_some R bs at_ false _ H0.out.rr hlt
 rw [hc,hx] at hnx
 have hne:¬ w.heap.size=R:=by omega
 have HNX:=Lib.hid hnx
 clear hr hc hx hnx
 go_enter Tryz.func94,Tryz.ntmps94
 go_wp2_with fail
 refine (HNX.out).mono ?_
 rintro e w1 ⟨rfl,hr1,hg1⟩
 have h1:=H0.out.step hr1 hg1
 have H1:=Lib.hid h1
 clear h1 hr1 hg1 H0 HNX
 go_wp2_with fail
 refine (rnumber_any bs (at_+1) R w1 H1.out.rr).mono ?_
 rintro e w2 ⟨hg2,⟨u,r,at',hd,rfl,hr2,hrest⟩|⟨hd,rfl,at',hr2⟩⟩
 ·have h2:=H1.out.step hr2 hg2
  obtain ⟨x0,x1,x2,x3⟩:=h2.box.cells
  obtain ⟨f0,f1,f2,f3⟩:=h2.box.free
  obtain ⟨a1,cap1,y0,y1,y2,fy1,fy2,hal,hbl⟩:=h2.rr.cells
  have H2:=Lib.hid h2
  have hrl:r.length=bs.length - at':=by rw [← hrest,List.length_drop]
  have hle:¬ u≤r.length:=fun h=>by have:=HNO.out;rw [decLen_ok hd h] at this;cases this
  have kw1:IntKind.i64.wrap ((bs.length:Int) - at')=bs.length - at':=IntWalk.i64_in _ (by omega)
  have kw2:IntKind.u64.wrap ((bs.length:Int) - at')=bs.length - at':=by
   have:=wrapU (bs.length - at') (by omega)
   rw [show ((bs.length - at':Nat):Int)=(bs.length:Int) - at' by omega] at this
   exact this
  have hdc:decide ((bs.length:Int) - at' < u)=true:=by simp;omega
  clear h2 hr2 hg2 hd hrest hle hrl
  go_wp2_with fail
  go_quiet (fail)
  go_wp2
  have h5:=(H2.out.drewN nq).toBad.res (.int .i64 0) (.int .i64 0) (.string ⟨#[]⟩) (.slice none 0 0)
  generalize ((((((w2.drewN nq).setCell ⟨R,2,none⟩ (.bool true))).setCell ⟨w.heap.size,0,none⟩ (.int .i64 0)).setCell ⟨w.heap.size,1,none⟩ (.int .i64 0)).setCell ⟨w.heap.size,2,none⟩ (.string ⟨#[]⟩)).setCell ⟨w.heap.size,3,none⟩ (.slice none 0 0)=W5 at *
  exact bodyPost_ret (v:= .agg #[.int .i64 0,.int .i64 0,.string ⟨#[]⟩,.slice none 0 0]) (by simp only [results,Tryz.results94];simp [go_sem,h5.c0,h5.c1,h5.c2,h5.c3]) rfl (h5.bad HDN.out)
 ·have h2:=H1.out.step hr2 hg2
  obtain ⟨x0,x1,x2,x3⟩:=h2.box.cells
  obtain ⟨f0,f1,f2,f3⟩:=h2.box.free
  obtain ⟨a1,cap1,y0,y1,y2,fy1,fy2,hal,hbl⟩:=h2.rr.cells
  have H2:=Lib.hid h2
  clear h2 hr2 hg2 hd
  go_wp2_with fail
  go_quiet (fail)
  go_wp2
  have h5:=(H2.out.drewN nq).toBad.res (.int .i64 0) (.int .i64 0) (.string ⟨#[]⟩) (.slice none 0 0)
  generalize ((((((w2.drewN nq).setCell ⟨R,2,none⟩ (.bool true))).setCell ⟨w.heap.size,0,none⟩ (.int .i64 0)).setCell ⟨w.heap.size,1,none⟩ (.int .i64 0)).setCell ⟨w.heap.size,2,none⟩ (.string ⟨#[]⟩)).setCell ⟨w.heap.size,3,none⟩ (.slice none 0 0)=W5 at *
  exact bodyPost_ret (v:= .agg #[.int .i64 0,.int .i64 0,.string ⟨#[]⟩,.slice none 0 0]) (by simp only [results,Tryz.results94];simp [go_sem,h5.c0,h5.c1,h5.c2,h5.c3]) rfl (h5.bad HDN.out)
set_option maxRecDepth 100000 in
set_option maxHeartbeats 3200000 in
theorem rvalue_30 (bs:List UInt8) (at_:Nat) (c:UInt8) (R:Nat) (w:World) (hr:RR w R bs at_ false) (hlt:at_ < bs.length) (hc:bs[at_]=c) (hx:c.toNat=3)
  {n:Nat} {r1:List UInt8} (hno:decLen (bs.drop (at_+1))=some (n,r1)):
  Calls Tryz.prog 94 #[.pointer (some ⟨R,0,none⟩),.int .i64 16] w (RVal 0 bs at_ R w):=by
 have HDN:Hid (decV 0 (bs.drop at_)=none):=by unfold Hid;rw [List.drop_eq_getElem_cons hlt,hc,decV_30 _ _ hx]
 have HNO:=Lib.hid hno
 clear hno
 have H0:=Lib.hid (rv0_of hr)
 have hRl:=hr.lt
 have hnx:=next_some R bs at_ false _ H0.out.rr hlt
 rw [hc,hx] at hnx
 have hne:¬ w.heap.size=R:=by omega
 have HNX:=Lib.hid hnx
 clear hr hc hx hnx
 go_enter Tryz.func94,Tryz.ntmps94
 go_wp2_with fail
 refine (HNX.out).mono ?_
 rintro e w1 ⟨rfl,hr1,hg1⟩
 have h1:=H0.out.step hr1 hg1
 have H1:=Lib.hid h1
 clear h1 hr1 hg1 H0 HNX
 go_wp2_with fail
 refine (rnumber_any bs (at_+1) R w1 H1.out.rr).mono ?_
 rintro e w2 ⟨hg2,⟨u,r,at',hd,rfl,hr2,hrest⟩|⟨hd,rfl,at',hr2⟩⟩
 ·have h2:=H1.out.step hr2 hg2
  obtain ⟨x0,x1,x2,x3⟩:=h2.box.cells
  obtain ⟨f0,f1,f2,f3⟩:=h2.box.free
  obtain ⟨a1,cap1,y0,y1,y2,fy1,fy2,hal,hbl⟩:=h2.rr.cells
  have H2:=Lib.hid h2
  have hrl:r.length=bs.length - at':=by rw [← hrest,List.length_drop]
  have hle:u≤r.length:=by
   rcases Nat.lt_or_ge r.length u with h|h
   ·have h3:=HNO.out
    unfold decLen at h3
    rw [hd] at h3
    simp only at h3
    rw [if_neg (by omega)] at h3
    cases h3
   ·exact h
  have kw1:IntKind.i64.wrap ((bs.length:Int) - at')=bs.length - at':=IntWalk.i64_in _ (by omega)
  have kw2:IntKind.u64.wrap ((bs.length:Int) - at')=bs.length - at':=by
   have:=wrapU (bs.length - at') (by omega)
   rw [show ((bs.length - at':Nat):Int)=(bs.length:Int) - at' by omega] at this
   exact this
  have hdc:decide ((bs.length:Int) - at' < u)=false:=by simp;omega
  clear h2 hr2 hg2 hd hrest hle hrl
  go_wp2_with fail
  go_quiet (fail)
  go_wp2
  have h5:=(H2.out.drewN nq).toBad.res (.int .i64 0) (.int .i64 0) (.string ⟨#[]⟩) (.slice none 0 0)
  generalize ((((((w2.drewN nq).setCell ⟨R,2,none⟩ (.bool true))).setCell ⟨w.heap.size,0,none⟩ (.int .i64 0)).setCell ⟨w.heap.size,1,none⟩ (.int .i64 0)).setCell ⟨w.heap.size,2,none⟩ (.string ⟨#[]⟩)).setCell ⟨w.heap.size,3,none⟩ (.slice none 0 0)=W5 at *
  exact bodyPost_ret (v:= .agg #[.int .i64 0,.int .i64 0,.string ⟨#[]⟩,.slice none 0 0]) (by simp only [results,Tryz.results94];simp [go_sem,h5.c0,h5.c1,h5.c2,h5.c3]) rfl (h5.bad HDN.out)
 ·exact absurd HNO.out (by unfold decLen;rw [hd];simp)
structure RLst (d:Nat) (w:World) (R:Nat) (bs r1:List UInt8) (k:Nat) (l:List V) (at_:Nat) (a:Option Addr) (cap:Nat) (xs:List Value) (X8:Nat) (wr:World):Prop where
 len:l.length=k
 dec:decL (decV d) k r1=some (l,bs.drop at_)
 own:wr.ownsRow (X8+1) 79 4 (.slice a k cap) k xs
 cells:CellsL (fun b=>X8+1≤b∧b < wr.heap.size∧(Value.slice a k cap).ownBlock≠some b) wr l xs
 box:Box4 wr X8 (.int .i64 3) (.int .i64 0) (.string ⟨#[]⟩) (.slice a k cap)
 rv:RV0 w R bs at_ false wr
 lt:X8 < wr.heap.size
 lt8:w.heap.size < X8
theorem RLst.step {d:Nat} {w:World} {R:Nat} {bs r1:List UInt8} {k:Nat} {l:List V} {at_ at':Nat} {a:Option Addr} {cap:Nat} {xs:List Value} {X8:Nat} {wr w4 w5:World} {v:V} {c0 c1 c2 c3:Value} {g5 cap5:Nat}
  (h:RLst d w R bs r1 k l at_ a cap xs X8 wr) (hdec:decL (decV d) (k+1) r1=some (l++[v],bs.drop at'))
  (hrep:RepF (fun b=>wr.drew.heap.size≤b∧b < w4.heap.size) w4 v (.agg #[c0,c1,c2,c3])) (hrd:RR w4 R bs at' false) (hg4:wr.drew.grownBy w4 (some R))
  (hg5:Grew (X8+1) 79 4 (w4.alloc (.cells #[c0,c1,c2,c3] 79)) (.slice a k cap) (.slice (some ⟨g5,0,none⟩) (k+1) cap5) (k+1) (xs++[c0,c1,c2,c3]) w5)
  (hX5:Box4 w5 X8 (.int .i64 3) (.int .i64 0) (.string ⟨#[]⟩) (.slice a k cap)):
  RLst d w R bs r1 (k+1) (l++[v]) at' (some ⟨g5,0,none⟩) cap5 (xs++[c0,c1,c2,c3]) X8 (w5.setCell ⟨X8,3,none⟩ (.slice (some ⟨g5,0,none⟩) (k+1) cap5)):=by
 have hs4:wr.heap.size≤w4.heap.size:=hg4.size
 have hs5:=hg5.by_.size
 rw [size_a1] at hs5
 have hlt:=h.lt
 have hlt8:=h.lt8
 have hR:=h.rv.rlt
 have hown:∀ g,(Value.slice a k cap).ownBlock=some g→X8+1≤g∧g < wr.heap.size:=fun g hg=>h.own.lt g hg
 have hnew:=hg5.new g5 rfl
 rw [size_a1] at hnew
 have kept:∀ b,X8+1≤b→b < w4.heap.size→(Value.slice a k cap).ownBlock≠some b→(w5.setCell ⟨X8,3,none⟩ (.slice (some ⟨g5,0,none⟩) (k+1) cap5)).heap[b]? =w4.heap[b]?:=by
  intro b h1 h2 h3
  rw [setCell_other _ _ _ _ _ (by omega),hg5.other (by rw [size_a1];omega) h3,Below.heap_alloc _ _ _ h2]
 have keptB:∀ b,b < X8→(w5.setCell ⟨X8,3,none⟩ (.slice (some ⟨g5,0,none⟩) (k+1) cap5)).heap[b]? =w4.heap[b]?:=by
  intro b h1
  rw [setCell_other _ _ _ _ _ (by omega),hg5.other (by rw [size_a1];omega) (fun e=>by have:=(hown b e).1;omega),Below.heap_alloc _ _ _ (by omega)]
 have hg4':wr.grownBy w4 (some R):=⟨hg4.os,hg4.tape,hg4.output,hg4.size,hg4.block⟩
 have hrv:=h.rv.step hrd hg4'
 refine ⟨by simp [h.len],hdec,ownsRow_setCell_below hg5.own (a:=⟨X8,3,none⟩) (by show X8 < X8+1;omega) _,?_,hX5.set3 _,⟨hrd.keep (fun b hb=>keptB b (by omega)),(keptB _ hlt8).trans hrv.box,?_,hR⟩,by rw [size_set];omega,hlt8⟩
 ·refine CellsL.snoc ?_ (h.cells.keep ?_ ?_)
  ·refine hrep.keep ?_ ?_
   ·rintro b ⟨h1,h2⟩
    have h1':wr.heap.size≤b:=h1
    refine ⟨by omega,by rw [size_set];omega,?_⟩
    intro e
    have e':g5=b:=by injection e
    rcases hnew with h3|h3
    ·omega
    ·have:=(hown g5 h3).2;omega
   ·rintro b ⟨h1,h2⟩
    have h1':wr.heap.size≤b:=h1
    exact kept b (by omega) h2 (fun e=>by have:=(hown b e).2;omega)
  ·rintro b ⟨h1,h2,h3⟩
   refine ⟨h1,by rw [size_set];omega,?_⟩
   intro e
   have e':g5=b:=by injection e
   rcases hnew with h4|h4
   ·omega
   ·exact h3 (e' ▸ h4)
  ·rintro b ⟨h1,h2,h3⟩
   rw [kept b h1 (by omega) h3]
   exact hg4.block b h2 (by simp;omega)
 ·have h2:=hrv.by_.andThen (World.grownBy_alloc w4 (.cells #[c0,c1,c2,c3] 79) none) (fun j hj=>by cases hj)
  have h3:=h2.andThen hg5.by_ (fun j hj=> .inl (by have:=(hown j hj).1;omega))
  exact grownBy_set h3 _ _ _ (by omega)
structure RBad (w:World) (R:Nat) (bs:List UInt8) (X8:Nat) (wr:World):Prop where
 rv:∃ at_,RV0 w R bs at_ true wr
 box:∃ a len cap,Box4 wr X8 (.int .i64 3) (.int .i64 0) (.string ⟨#[]⟩) (.slice a len cap)
 lt8:w.heap.size < X8
theorem RLst.toBad {d:Nat} {w:World} {R:Nat} {bs r1:List UInt8} {k:Nat} {l:List V} {at_ at':Nat} {a:Option Addr} {cap:Nat} {xs:List Value} {X8:Nat} {wr w4 w5:World} {c0 c1 c2 c3:Value} {g5 cap5 n5:Nat} {ys:List Value}
  (h:RLst d w R bs r1 k l at_ a cap xs X8 wr) (hrd:RR w4 R bs at' true) (hg4:wr.drew.grownBy w4 (some R))
  (hg5:Grew (X8+1) 79 4 (w4.alloc (.cells #[c0,c1,c2,c3] 79)) (.slice a k cap) (.slice (some ⟨g5,0,none⟩) n5 cap5) n5 ys w5)
  (hX5:Box4 w5 X8 (.int .i64 3) (.int .i64 0) (.string ⟨#[]⟩) (.slice a k cap)):
  RBad w R bs X8 (w5.setCell ⟨X8,3,none⟩ (.slice (some ⟨g5,0,none⟩) n5 cap5)):=by
 have hs4:wr.heap.size≤w4.heap.size:=hg4.size
 have hs5:=hg5.by_.size
 rw [size_a1] at hs5
 have hlt:=h.lt
 have hlt8:=h.lt8
 have hR:=h.rv.rlt
 have hown:∀ g,(Value.slice a k cap).ownBlock=some g→X8+1≤g∧g < wr.heap.size:=fun g hg=>h.own.lt g hg
 have keptB:∀ b,b < X8→(w5.setCell ⟨X8,3,none⟩ (.slice (some ⟨g5,0,none⟩) n5 cap5)).heap[b]? =w4.heap[b]?:=by
  intro b h1
  rw [setCell_other _ _ _ _ _ (by omega),hg5.other (by rw [size_a1];omega) (fun e=>by have:=(hown b e).1;omega),Below.heap_alloc _ _ _ (by omega)]
 have hg4':wr.grownBy w4 (some R):=⟨hg4.os,hg4.tape,hg4.output,hg4.size,hg4.block⟩
 have hrv:=h.rv.step hrd hg4'
 refine ⟨⟨at',hrd.keep (fun b hb=>keptB b (by omega)),(keptB _ hlt8).trans hrv.box,?_,hR⟩,⟨_,_,_,hX5.set3 _⟩,hlt8⟩
 have h2:=hrv.by_.andThen (World.grownBy_alloc w4 (.cells #[c0,c1,c2,c3] 79) none) (fun j hj=>by cases hj)
 have h3:=h2.andThen hg5.by_ (fun j hj=> .inl (by have:=(hown j hj).1;omega))
 exact grownBy_set h3 _ _ _ (by omega)
theorem RLst.done {d:Nat} {w:World} {R:Nat} {bs r1:List UInt8} {k:Nat} {l:List V} {at_:Nat} {a:Option Addr} {cap:Nat} {xs:List Value} {X8:Nat} {wr w':World}
  (h:RLst d w R bs r1 k l at_ a cap xs X8 wr) (hk:k≤1000000) (hs:wr.heap.size≤w'.heap.size) (hb:∀ b,w.heap.size < b→b < wr.heap.size→w'.heap[b]? =wr.heap[b]?):
  RepF (fun b=>w.heap.size≤b∧b < w'.heap.size) w' (.mk 3 0 [] l) (.agg #[.int .i64 3,.int .i64 0,.string ⟨#[]⟩,.slice a k cap]):=by
 have ho:=h.own
 have hl:=h.len
 have h8:=h.lt8
 subst hl
 obtain ⟨h1,h2⟩:=own_repFL (G:=fun b=>w.heap.size < b∧b < wr.heap.size) ho h.cells (fun g h1 h2=>⟨by omega,h2⟩) (fun b ⟨h1,h2,_⟩=>⟨by omega,h2⟩)
 simp only [RepF]
 refine ⟨a,cap,rfl,by unfold i64R;omega,by unfold i64R;omega,by simp,h2,by omega,?_⟩
 exact h1.keep (fun b ⟨h3,h4⟩=>⟨by omega,by omega⟩) (fun b ⟨h3,h4⟩=>hb b h3 h4)
set_option maxRecDepth 100000 in
set_option maxHeartbeats 3200000 in
theorem rvalue_3 (d:Nat) (bs:List UInt8) (at_:Nat) (c:UInt8) (R:Nat) (w:World) (hr:RR w R bs at_ false) (hlt:at_ < bs.length) (hc:bs[at_]=c) (hx:c.toNat=3) (dep:Int) (hdep:0≤dep) (hdep2:dep < 16)
  {n:Nat} {r1:List UInt8} (hno:decLen (bs.drop (at_+1))=some (n,r1))
  (ih:∀ at_ w,RR w R bs at_ false→Calls Tryz.prog 94 #[.pointer (some ⟨R,0,none⟩),.int .i64 (dep+1)] w (RVal d bs at_ R w)):
  Calls Tryz.prog 94 #[.pointer (some ⟨R,0,none⟩),.int .i64 dep] w (RVal (d+1) bs at_ R w):=by
 have HDV:Hid (decV (d+1) (bs.drop at_)=(decL (decV d) n r1).map fun p=>(.mk 3 0 [] p.1,p.2)):=by unfold Hid;rw [List.drop_eq_getElem_cons hlt,hc,decV_3 _ _ _ hx,decList_of hno]
 have HNO:=Lib.hid hno
 have IH:=Lib.hid ih
 clear hno ih
 have H0:=Lib.hid (rv0_of hr)
 have hRl:=hr.lt
 have hnx:=next_some R bs at_ false _ H0.out.rr hlt
 rw [hc,hx] at hnx
 have hne:¬ w.heap.size=R:=by omega
 have HNX:=Lib.hid hnx
 clear hr hc hx hnx
 go_enter Tryz.func94,Tryz.ntmps94
 go_wp2_with fail
 refine (HNX.out).mono ?_
 rintro e w1 ⟨rfl,hr1,hg1⟩
 have h1:=H0.out.step hr1 hg1
 have H1:=Lib.hid h1
 clear h1 hr1 hg1 H0 HNX
 go_wp2_with fail
 refine (rnumber_any bs (at_+1) R w1 H1.out.rr).mono ?_
 rintro e w2 ⟨hg2,⟨u,r,at',hd,rfl,hr2,hrest⟩|⟨hd,rfl,at',hr2⟩⟩
 ·have h2:=H1.out.step hr2 hg2
  obtain ⟨x0,x1,x2,x3⟩:=h2.box.cells
  obtain ⟨f0,f1,f2,f3⟩:=h2.box.free
  obtain ⟨a1,cap1,y0,y1,y2,fy1,fy2,hal,hbl⟩:=h2.rr.cells
  have H2:=Lib.hid h2
  have hrl:r.length=bs.length - at':=by rw [← hrest,List.length_drop]
  obtain ⟨rfl,rfl,hle⟩:u=n∧r=r1∧u≤r.length:=by
   have h3:=HNO.out
   unfold decLen at h3
   rw [hd] at h3
   simp only at h3
   split at h3
   ·rename_i hle
    simp only [Option.some.injEq,Prod.mk.injEq] at h3
    exact ⟨h3.1,h3.2,hle⟩
   ·cases h3
  have hul:u≤1000000:=by omega
  have kw1:IntKind.i64.wrap ((bs.length:Int) - at')=bs.length - at':=IntWalk.i64_in _ (by omega)
  have kw2:IntKind.u64.wrap ((bs.length:Int) - at')=bs.length - at':=by
   have:=wrapU (bs.length - at') (by omega)
   rw [show ((bs.length - at':Nat):Int)=(bs.length:Int) - at' by omega] at this
   exact this
  have hdc:decide ((bs.length:Int) - at' < u)=false:=by simp;omega
  have g16:(dep==16)=false:=by simp;omega
  have HRS:=Lib.hid hrest
  clear h2 hr2 hg2 hd hrest hle hrl
  go_wp2_with fail
  go_quiet (fail)
  clear kw1 kw2 hdc x0 x1 x2 x3 f0 f1 f2 f3 y0 y1 y2 fy1 fy2
  have h3:=H2.out.drewN nq
  generalize w2.drewN nq=W2 at *
  clear H2
  have hlt2:w.heap.size < W2.heap.size:=(Array.getElem?_eq_some_iff.1 h3.box).1
  have hst:RLst d w R bs r 0 [] at' none 0 [] W2.heap.size (W2.alloc (.cells #[.int .i64 3,.int .i64 0,.string ⟨#[]⟩,.slice none 0 0] 79)):=
   ⟨rfl,by rw [HRS.out];rfl,World.ownsRow_nil _ _ _ _,rfl,Box4.new _ _ _ _ _,⟨h3.rr.alloc _,(Below.heap_alloc _ _ _ hlt2).trans h3.box,h3.by_.andThen (World.grownBy_alloc _ _ none) (fun j hj=>by cases hj),h3.rlt⟩,by rw [size_a1];exact Nat.lt_succ_self _,hlt2⟩
  have HST:=Lib.hid hst
  obtain ⟨x0,x1,x2,x3⟩:=h3.box.cells
  obtain ⟨f0,f1,f2,f3⟩:=h3.box.free
  obtain ⟨a1,cap1,y0,y1,y2,fy1,fy2,hal,hbl⟩:=h3.rr.cells
  clear hst h3
  go_wp2
  clear x0 x1 x2 x3 f0 f1 f2 f3 y0 y1 y2 fy1 fy2
  go_loopw [9] (fun i wr=>∃ k:Nat,k≤u∧i= .int .u64 k∧((∃ l at' a cap xs,RLst d w R bs r k l at' a cap xs W2.heap.size wr)∨(RBad w R bs W2.heap.size wr∧Hid (decL (decV d) u r=none)))) (fun i _=>u - (intOf i).toNat)
  case atStart=>exact ⟨0,Nat.zero_le _,rfl,.inl ⟨[],at',none,0,[],HST.out⟩⟩
  case round=>
   obtain ⟨k,hk,rfl,⟨l,at2,a,cap,xs,hs⟩|⟨hbad,hdn⟩⟩:=hrel
   ·have HS:=Lib.hid hs
    obtain ⟨x0,x1,x2,x3⟩:=hs.box.cells
    obtain ⟨f0,f1,f2,f3⟩:=hs.box.free
    obtain ⟨a1,cap1,y0,y1,y2,fy1,fy2,hal,hbl⟩:=hs.rv.rr.cells
    have hltr:=hs.lt
    have hlt8:=hs.lt8
    by_cases hlt:k < u
    ·have kw:IntKind.i64.wrap (dep+1)=dep+1:=IntWalk.i64_in _ (by omega)
     have HRDd:Hid (RR wr.drew R bs at2 false):=HS.out.rv.rr
     have HBXd:Hid (Box4 wr.drew W2.heap.size (.int .i64 3) (.int .i64 0) (.string ⟨#[]⟩) (.slice a k cap)):=HS.out.box
     have hXB:some W2.heap.size≠some R:=by simp;omega
     have hov:∀ g,(Value.slice a k cap).ownBlock=some g→W2.heap.size+1≤g:=fun g hg=>(HS.out.own.lt g hg).1
     have K3:=Lib.hid (maxLen_le (n:=k+1) (by omega))
     have K4:=Lib.hid (show (k+1) * 56≤140737488355328 by omega)
     clear hs
     cases hdv:decV d (bs.drop at2) with
     |none=>
       have HP:Hid (∀ W,RR W R bs at2 false→Calls Tryz.prog 94 #[.pointer (some ⟨R,0,none⟩),.int .i64 (dep+1)] W fun e w'=>∃ k0 n0 s0 a0 len0 cap0 at',e= .returned (.agg #[.int .i64 k0,.int .i64 n0,.string s0,.slice a0 len0 cap0])∧RR w' R bs at' true∧W.grownBy w' (some R)):=fun W h=>(IH.out at2 W h).mono (by
        rintro e w' ⟨h1,⟨v,r,c,at',h2,_⟩|⟨_,k0,n0,s0,a0,len0,cap0,at',rfl,h3⟩⟩
        ·rw [hdv] at h2;cases h2
        ·exact ⟨k0,n0,s0,a0,len0,cap0,at',rfl,h3,h1⟩)
       have HDN:=Lib.hid (decL_none HS.out.dec hdv hlt)
       clear hdv
       go_wp2_with fail
       go_region_law (first
        |(go_simp;go_at_call 94;((with_reducible refine (HP.out _ HRDd.out).mono ?_));rintro e w4 ⟨k0,n0,s0,a0,len0,cap0,at4,rfl,hrd4,hg4⟩;have hX4:=HBXd.out.kept hg4 hXB;obtain ⟨z0,z1,z2,z3⟩:=hX4.cells;have HO4:=Lib.hid (own_keptB HS.out.own (by omega) hg4);have hsz4:W2.heap.size+1≤w4.heap.size:=Nat.le_trans hltr hg4.size;have hsz4x:W2.heap.size < w4.heap.size:=hsz4)
        |(refine step_app (by rfl) _ _ (by rfl) elemV (W2.heap.size+1) (.slice a k cap) k xs (by rfl) (HO4.out.alloc _) (.slice (some ⟨w4.heap.size,0,none⟩) 1 1) 1 [.int .i64 k0,.int .i64 n0,.string s0,.slice a0 len0 cap0] (by rfl) (Source.cells _ _ _ _ rfl rfl (World.news_of_block (cs:= #[.int .i64 k0,.int .i64 n0,.string s0,.slice a0 len0 cap0]) (t:=79) (fr:=(0,0)) (heap_alloc_new w4 _)) (one4 _ _ _ _ _ _)) (.inl rfl) K3.out K4.out (le_alloc hsz4 _) ?_;intro v5 w5 hg5;have hX5:=box_grew hX4 hg5 hov;obtain ⟨q0,q1,q2,q3⟩:=hX5.cells;obtain ⟨qf0,qf1,qf2,qf3⟩:=hX5.free;obtain ⟨g5,cap5,rfl,hg51,hg52⟩:=hg5.own.form (Nat.succ_pos _)))
       all_goals
        go_wp2
        go_roundw
        case rel=>exact ⟨k+1,by omega,by go_num,.inr ⟨HS.out.toBad hrd4 hg4 hg5 hX5,HDN.out⟩⟩
        case measure=>simp [intOf];omega
     |some p=>
       obtain ⟨v,r'⟩:=p
       have HQ:Hid (∀ W,RR W R bs at2 false→Calls Tryz.prog 94 #[.pointer (some ⟨R,0,none⟩),.int .i64 (dep+1)] W fun e w'=>∃ c at',e= .returned c∧bs.drop at'=r'∧RepF (fun b=>W.heap.size≤b∧b < w'.heap.size) w' v c∧RR w' R bs at' false∧W.grownBy w' (some R)):=fun W h=>(IH.out at2 W h).mono (by
        rintro e w' ⟨h1,⟨v,r,c,at',h2,rfl,h3,h4,h5⟩|⟨h2,_⟩⟩
        ·rw [hdv] at h2;cases h2;exact ⟨c,at',rfl,h5,h3,h4,h1⟩
        ·rw [hdv] at h2;cases h2)
       have HDO:=Lib.hid (decL_one HS.out.dec hdv)
       clear hdv
       go_wp2_with fail
       go_region_law (first
        |(go_simp;go_at_call 94;((with_reducible refine (HQ.out _ HRDd.out).mono ?_));rintro e w4 ⟨cc,at4,rfl,hdr4,hrep4,hrd4,hg4⟩;obtain ⟨k0,n0,s0,a0,len0,cap0,rfl⟩:=hrep4.form;have hX4:=HBXd.out.kept hg4 hXB;obtain ⟨z0,z1,z2,z3⟩:=hX4.cells;have HO4:=Lib.hid (own_keptB HS.out.own (by omega) hg4);have hsz4:W2.heap.size+1≤w4.heap.size:=Nat.le_trans hltr hg4.size;have hsz4x:W2.heap.size < w4.heap.size:=hsz4)
        |(refine step_app (by rfl) _ _ (by rfl) elemV (W2.heap.size+1) (.slice a k cap) k xs (by rfl) (HO4.out.alloc _) (.slice (some ⟨w4.heap.size,0,none⟩) 1 1) 1 [.int .i64 k0,.int .i64 n0,.string s0,.slice a0 len0 cap0] (by rfl) (Source.cells _ _ _ _ rfl rfl (World.news_of_block (cs:= #[.int .i64 k0,.int .i64 n0,.string s0,.slice a0 len0 cap0]) (t:=79) (fr:=(0,0)) (heap_alloc_new w4 _)) (one4 _ _ _ _ _ _)) (.inl rfl) K3.out K4.out (le_alloc hsz4 _) ?_;intro v5 w5 hg5;have hX5:=box_grew hX4 hg5 hov;obtain ⟨q0,q1,q2,q3⟩:=hX5.cells;obtain ⟨qf0,qf1,qf2,qf3⟩:=hX5.free;obtain ⟨g5,cap5,rfl,hg51,hg52⟩:=hg5.own.form (Nat.succ_pos _)))
       all_goals
        go_wp2
        go_roundw
        case rel=>exact ⟨k+1,by omega,by go_num,.inl ⟨l++[v],at4,some ⟨g5,0,none⟩,cap5,_,HS.out.step (by rw [hdr4];exact HDO.out) hrep4 hrd4 hg4 hg5 hX5⟩⟩
        case measure=>simp [intOf];omega
    ·have hku:k=u:=by omega
     have hd1:decide (k < u)=false:=by simp;omega
     have hrv:=hs.rv
     obtain ⟨b0,b1,b2,b3⟩:=hs.rv.box.cells
     obtain ⟨bf0,bf1,bf2,bf3⟩:=hs.rv.box.free
     have h5:=hrv.res (.int .i64 3) (.int .i64 0) (.string ⟨#[]⟩) (.slice a k cap)
     have hrep:=HS.out.done (w':=((((wr.setCell ⟨w.heap.size,0,none⟩ (.int .i64 3)).setCell ⟨w.heap.size,1,none⟩ (.int .i64 0)).setCell ⟨w.heap.size,2,none⟩ (.string ⟨#[]⟩)).setCell ⟨w.heap.size,3,none⟩ (.slice a k cap))) (by omega) (by simp [World.setCell]) (fun b h1 h2=>by rw [setCell_other _ _ _ _ _ (by omega),setCell_other _ _ _ _ _ (by omega),setCell_other _ _ _ _ _ (by omega),setCell_other _ _ _ _ _ (by omega)])
     have H5:=Lib.hid h5
     have HREP:=Lib.hid hrep
     have HKU:=Lib.hid hku
     clear hs hrv h5 hrep hku
     go_wp2
     have h5:=H5.out
     have hrep:=HREP.out
     clear H5 HREP
     generalize (((wr.setCell ⟨w.heap.size,0,none⟩ (.int .i64 3)).setCell ⟨w.heap.size,1,none⟩ (.int .i64 0)).setCell ⟨w.heap.size,2,none⟩ (.string ⟨#[]⟩)).setCell ⟨w.heap.size,3,none⟩ (.slice a k cap)=W5 at *
     refine bodyPost_ret (v:= .agg #[.int .i64 3,.int .i64 0,.string ⟨#[]⟩,.slice a k cap]) (by simp only [results,Tryz.results94];simp [go_sem,h5.c0,h5.c1,h5.c2,h5.c3]) rfl ?_
     refine ⟨h5.by_,.inl ⟨.mk 3 0 [] l,bs.drop at2,_,at2,?_,rfl,hrep,h5.rr,rfl⟩⟩
     rw [HDV.out,← HKU.out,HS.out.dec];rfl
   ·obtain ⟨⟨at2,hrv⟩,⟨ab,lb,cb,hbx⟩,hlt8⟩:=hbad
    obtain ⟨x0,x1,x2,x3⟩:=hbx.cells
    obtain ⟨b0,b1,b2,b3⟩:=hrv.box.cells
    obtain ⟨bf0,bf1,bf2,bf3⟩:=hrv.box.free
    obtain ⟨a1,cap1,y0,y1,y2,fy1,fy2,hal,hbl⟩:=hrv.rr.cells
    by_cases hlt:k < u
    ·skip
     go_wp2
     have h5:=hrv.res (.int .i64 3) (.int .i64 0) (.string ⟨#[]⟩) (.slice ab lb cb)
     generalize (((wr.setCell ⟨w.heap.size,0,none⟩ (.int .i64 3)).setCell ⟨w.heap.size,1,none⟩ (.int .i64 0)).setCell ⟨w.heap.size,2,none⟩ (.string ⟨#[]⟩)).setCell ⟨w.heap.size,3,none⟩ (.slice ab lb cb)=W5 at *
     exact bodyPost_ret (v:= .agg #[.int .i64 3,.int .i64 0,.string ⟨#[]⟩,.slice ab lb cb]) (by simp only [results,Tryz.results94];simp [go_sem,h5.c0,h5.c1,h5.c2,h5.c3]) rfl (h5.bad (by rw [HDV.out,hdn.out];rfl))
    ·have hd1:decide (k < u)=false:=by simp;omega
     go_wp2
     have h5:=hrv.res (.int .i64 3) (.int .i64 0) (.string ⟨#[]⟩) (.slice ab lb cb)
     generalize (((wr.setCell ⟨w.heap.size,0,none⟩ (.int .i64 3)).setCell ⟨w.heap.size,1,none⟩ (.int .i64 0)).setCell ⟨w.heap.size,2,none⟩ (.string ⟨#[]⟩)).setCell ⟨w.heap.size,3,none⟩ (.slice ab lb cb)=W5 at *
     exact bodyPost_ret (v:= .agg #[.int .i64 3,.int .i64 0,.string ⟨#[]⟩,.slice ab lb cb]) (by simp only [results,Tryz.results94];simp [go_sem,h5.c0,h5.c1,h5.c2,h5.c3]) rfl (h5.bad (by rw [HDV.out,hdn.out];rfl))
 ·exact absurd HNO.out (by unfold decLen;rw [hd];simp)
theorem rvalue_any (bs:List UInt8) (R:Nat):∀ (d:Nat),d≤16→∀ (at_:Nat) (w:World),RR w R bs at_ false→Calls Tryz.prog 94 #[.pointer (some ⟨R,0,none⟩),.int .i64 (16 - d)] w (RVal d bs at_ R w):=by
 intro d
 induction d with
 |zero=>
   intro _ at_ w hr
   have hal:at_≤bs.length:=by obtain ⟨_,_,h⟩:=hr;exact h.2.2.2.2.2
   by_cases hend:at_=bs.length
   ·subst hend;exact rvalue_end 0 bs R w hr _
   ·have hlt:at_ < bs.length:=by omega
    obtain ⟨c,hc⟩:∃ c,bs[at_]=c:=⟨_,rfl⟩
    by_cases h1:c.toNat=1
    ·exact rvalue_1 0 bs at_ c R w hr hlt hc h1 _
    ·by_cases h2:c.toNat=2
     ·exact rvalue_2 0 bs at_ c R w hr hlt hc h2 _
     ·by_cases h3:c.toNat=3
      ·cases hd:decLen (bs.drop (at_+1)) with
       |none=>exact rvalue_3no 0 bs at_ c R w hr hlt hc h3 _ hd (by rw [List.drop_eq_getElem_cons hlt,hc,decV_30 _ _ h3])
       |some p=>obtain ⟨n,r1⟩:=p;exact rvalue_30 bs at_ c R w hr hlt hc h3 hd
      ·exact rvalue_o 0 bs at_ c [] R w hr hlt hc h1 h2 h3 _
 |succ d ih=>
   intro hd16 at_ w hr
   have hal:at_≤bs.length:=by obtain ⟨_,_,h⟩:=hr;exact h.2.2.2.2.2
   by_cases hend:at_=bs.length
   ·subst hend;exact rvalue_end _ bs R w hr _
   ·have hlt:at_ < bs.length:=by omega
    obtain ⟨c,hc⟩:∃ c,bs[at_]=c:=⟨_,rfl⟩
    by_cases h1:c.toNat=1
    ·exact rvalue_1 _ bs at_ c R w hr hlt hc h1 _
    ·by_cases h2:c.toNat=2
     ·exact rvalue_2 _ bs at_ c R w hr hlt hc h2 _
     ·by_cases h3:c.toNat=3
      ·cases hd:decLen (bs.drop (at_+1)) with
       |none=>exact rvalue_3no _ bs at_ c R w hr hlt hc h3 _ hd (by rw [List.drop_eq_getElem_cons hlt,hc,decV_3 _ _ _ h3,decList_none hd])
       |some p=>
         obtain ⟨n,r1⟩:=p
         refine rvalue_3 d bs at_ c R w hr hlt hc h3 _ (by omega) (by omega) hd fun at2 w h=>?_
         have e:(16 - ((d+1:Nat):Int))+1=16 - (d:Int):=by omega
         rw [e]
         exact ih (by omega) at2 w h
      ·exact rvalue_o _ bs at_ c [] R w hr hlt hc h1 h2 h3 _
end Go.Proofs.YthidfoohhhkobaaGreat.Cd

namespace Go.Proofs.YthidfoohhhkobaaGreat.Cd
set_option linter.unusedSimpArgs false
set_option linter.unusedVariables false
open Go.RowKit
attribute [local go_sem ↓] Go.wp_at_zero Go.wp_at_succ
set_option maxHeartbeats 400000 in
theorem dec_chk {bs:List UInt8} {v:V} (hl:bs.length≤1000000) (h:decV 16 bs=some (v,[])):bs=v.enc∧v.chk=0∧v.depth≤16∧v.enc.length≤1000000:=by
 obtain ⟨h1,h2,h3,h4⟩:=V.enc_dec 16 bs v [] (by omega) h
 rw [List.append_nil] at h1
 refine ⟨h1,?_,h3,by rw [← h1];exact hl⟩
 rw [V.chk_of,if_pos h2,if_neg (by omega)]
structure RDec0 (w:World) (bs:List UInt8) (a:Option Addr) (cap:Nat) (W:World):Prop where
 rr:RR W (w.heap.size+1) bs 0 false
 box:Box4 W w.heap.size (.int .i64 0) (.int .i64 0) (.string ⟨#[]⟩) (.slice none 0 0)
 by_:Below w.heap.size w W
theorem rdec0_of {w:World} {bs:List UInt8} {a:Option Addr} {cap:Nat} (hl:bs.length≤cap) (hl2:bs.length≤1000000) (hby:Bytes w a bs) (hlt:bs=[]∨∀ ad,a=some ad→ad.block < w.heap.size):
  RDec0 w bs a cap ((w.alloc (.cells #[.int .i64 0,.int .i64 0,.string ⟨#[]⟩,.slice none 0 0] 79)).alloc (.cells #[.slice a bs.length cap,.int .i64 0,.bool false] 137)):=by
 have hb:Below w.heap.size w ((w.alloc (.cells #[.int .i64 0,.int .i64 0,.string ⟨#[]⟩,.slice none 0 0] 79)).alloc (.cells #[.slice a bs.length cap,.int .i64 0,.bool false] 137)):=
  ((Below.refl _ _).alloc (Nat.le_refl _) _).alloc (by simp) _
 refine ⟨⟨a,cap,?_,hl,hl2,hby.below hb,hlt.imp id (fun hl ad h=>by have:=hl ad h;omega),by omega⟩,?_,hb⟩
 ·have:=heap_alloc_new (w.alloc (.cells #[.int .i64 0,.int .i64 0,.string ⟨#[]⟩,.slice none 0 0] 79)) (.cells #[.slice a bs.length cap,.int .i64 0,.bool false] 137)
  rw [size_a1] at this
  exact this
 ·unfold Box4
  rw [Below.heap_alloc _ _ _ (by rw [size_a1];omega)]
  exact heap_alloc_new w _
theorem dec_none {bs:List UInt8} {o:Option (V×List UInt8)} (h:decV 16 bs=o) (hn:∀ v,o≠some (v,[])):dec bs=none:=by
 unfold dec
 rw [h]
 cases o with
 |none=>rfl
 |some p=>
   obtain ⟨v,r⟩:=p
   cases r with
   |nil=>exact absurd rfl (hn v)
   |cons c r=>rfl
theorem decPost_bad {bs:List UInt8} {w W:World} (hd:dec bs=none) (hb:Below w.heap.size w W):DecPost bs w (.returned (.tuple #[.agg #[.int .i64 0,.int .i64 0,.string ⟨#[]⟩,.slice none 0 0],.int .i64 10])) W:=
 ⟨_,by rw [hd];rfl,by rw [hd];exact repV_zero _ _,hb⟩
theorem below_sets {w W:World} (h:Below w.heap.size w W) (d0 d1 d2 d3:Value):Below w.heap.size w ((((W.setCell ⟨w.heap.size,0,none⟩ d0).setCell ⟨w.heap.size,1,none⟩ d1).setCell ⟨w.heap.size,2,none⟩ d2).setCell ⟨w.heap.size,3,none⟩ d3):=
 (((h.setCell (p:=⟨w.heap.size,0,none⟩) (Nat.le_refl _) _).setCell (p:=⟨w.heap.size,1,none⟩) (Nat.le_refl _) _).setCell (p:=⟨w.heap.size,2,none⟩) (Nat.le_refl _) _).setCell (p:=⟨w.heap.size,3,none⟩) (Nat.le_refl _) _
theorem below_drewN {B:Nat} {a w:World} (h:Below B a w) (n:Nat):Below B a (w.drewN n):=⟨h.os,h.tape,h.output,h.size,h.block⟩
theorem own_bytes {w:World} {base:Nat} {v:Value} {bs:List UInt8} (h:w.ownsRow base 5 1 v bs.length (bs.map byteV)):∃ a cap,v= .slice a bs.length cap∧Bytes w a bs∧bs.length≤cap∧(∀ ad,a=some ad→ad.block < w.heap.size):=by
 have hlt:=h.lt
 have hc:=fun g hg=>h.cells (g:=g) hg
 rcases h.2 with ⟨rfl,h0⟩|⟨g,cap,cur,rfl,h1,h2,h3,_⟩
 ·have:bs=[]:=List.eq_nil_of_length_eq_zero h0
  subst this
  exact ⟨none,0,rfl,.inl rfl,by simp,fun ad h=>by cases h⟩
 ·refine ⟨some ⟨g,0,none⟩,cap,rfl,.inr ⟨g,0,rfl,fun i hi=>?_⟩,h3,fun ad h=>by cases h;exact (hlt g rfl).2⟩
  have:=hc g rfl i (byteV bs[i]) (by simp [hi])
  rw [Nat.zero_add]
  by_cases hj:i=0
  ·subst hj;simpa [Addr.add] using this
  ·simpa [Addr.add,hj] using this
theorem box_on {w4 w5 w6:World} {X:Nat} {c0 c1 c2 c3:Value} (h:Box4 w4 X c0 c1 c2 c3) (hX:X+1 < w4.heap.size) (o:Obj) (hb5:Below (w4.alloc o).drew.heap.size (w4.alloc o).drew w5) (hb6:Below w5.heap.size w5 w6):Box4 w6 X c0 c1 c2 c3:=by
 have hs:X < (w4.alloc o).drew.heap.size:=by simp;omega
 have h5:=hb5.size
 unfold Box4
 rw [hb6.block _ (by omega),hb5.block _ hs]
 exact (Below.heap_alloc w4 o X (by omega)).trans h
theorem rep_on {w4 w5 w6:World} {X:Nat} {v:V} {c:Value} (h:RepF (fun b=>X < b∧b < w4.heap.size) w4 v c) (o:Obj) (hb5:Below (w4.alloc o).drew.heap.size (w4.alloc o).drew w5) (hb6:Below w5.heap.size w5 w6) (d0 d1 d2 d3:Value):
  RepF (fun b=>X≤b∧b < ((((w6.setCell ⟨X,0,none⟩ d0).setCell ⟨X,1,none⟩ d1).setCell ⟨X,2,none⟩ d2).setCell ⟨X,3,none⟩ d3).heap.size) ((((w6.setCell ⟨X,0,none⟩ d0).setCell ⟨X,1,none⟩ d1).setCell ⟨X,2,none⟩ d2).setCell ⟨X,3,none⟩ d3) v c:=by
 have h45:w4.heap.size≤w6.heap.size:=by
  have h5:=hb5.size
  have h6:=hb6.size
  have h4:w4.heap.size≤(w4.alloc o).drew.heap.size:=by simp
  omega
 have hsz:((((w6.setCell ⟨X,0,none⟩ d0).setCell ⟨X,1,none⟩ d1).setCell ⟨X,2,none⟩ d2).setCell ⟨X,3,none⟩ d3).heap.size=w6.heap.size:=by simp [World.setCell]
 refine h.keep (fun b hb=>⟨Nat.le_of_lt hb.1,by rw [hsz];exact Nat.lt_of_lt_of_le hb.2 h45⟩) ?_
 rintro b ⟨h1,h2⟩
 have hs:b < (w4.alloc o).drew.heap.size:=by simp;omega
 have h5:=hb5.size
 repeat (rw [setCell_other _ _ _ _ _ (by omega)])
 rw [hb6.block _ (by omega),hb5.block _ hs]
 exact Below.heap_alloc w4 o b h2
theorem rdec_good {bs:List UInt8} {v:V} {w W:World} {c:Value} (hb:Below w.heap.size w W)
  (hr:RepF (fun b=>w.heap.size≤b∧b < W.heap.size) W v c) (hd:dec bs=some v):DecPost bs w (.returned (.tuple #[c,.int .i64 0])) W:=
 ⟨c,by rw [hd];rfl,by rw [hd];exact hr,hb⟩
set_option maxRecDepth 100000 in
set_option maxHeartbeats 3200000 in
theorem rdecode_any (bs:List UInt8) (a:Option Addr) (cap:Nat) (w:World) (hl:bs.length≤cap) (hl2:bs.length≤1000000) (hby:Bytes w a bs) (hlt:bs=[]∨∀ ad,a=some ad→ad.block < w.heap.size):
  Calls Tryz.prog 72 #[.slice a bs.length cap] w (DecPost bs w):=by
 have H0:=Lib.hid (rdec0_of hl hl2 hby hlt)
 have HBY:=Lib.hid hby
 clear hby hlt
 go_enter Tryz.func72,Tryz.ntmps72
 go_wp2_with fail
 generalize (w.alloc (.cells #[.int .i64 0,.int .i64 0,.string ⟨#[]⟩,.slice none 0 0] 79)).alloc (.cells #[.slice a bs.length cap,.int .i64 0,.bool false] 137)=W3 at *
 have hv:=rvalue_any bs (w.heap.size+1) 16 (Nat.le_refl _) 0 W3 H0.out.rr
 rw [show (16 - ((16:Nat):Int))=0 from rfl] at hv
 refine hv.mono ?_
 clear hv
 rintro e w4 ⟨hg4,⟨v,r,c,at',hd,rfl,hrep,hrd4,hrest⟩|⟨hd,k0,n0,s0,a0,len0,cap0,at',rfl,hrd4⟩⟩
 ·have hX4:=H0.out.box.kept hg4 (by simp)
  have hb4:=below_by H0.out.by_ hg4 (by omega)
  obtain ⟨k0,n0,s0,a0,len0,cap0,rfl⟩:=hrep.form
  have hrv:=hrep.rep
  have hsz:w.heap.size+1 < w4.heap.size:=hrd4.lt
  obtain ⟨a1,cap1,y0,y1,y2,fy1,fy2,hal,hbl⟩:=hrd4.cells
  obtain ⟨x0,x1,x2,x3⟩:=hX4.cells
  obtain ⟨f0,f1,f2,f3⟩:=hX4.free
  rw [List.drop_zero] at hd
  have hlr:r.length=bs.length - at':=by rw [← hrest,List.length_drop]
  by_cases hat:at'=bs.length
  ·have hr0:r=[]:=List.eq_nil_of_length_eq_zero (by omega)
   subst hr0
   obtain ⟨hbs,hchk,hdep,hle⟩:=dec_chk hl2 hd
   subst hbs
   subst hat
   have hds:dec v.enc=some v:=by unfold dec;rw [hd]
   have HDS:=Lib.hid hds
   have HC:Hid (∀ W,RepV W v (.agg #[.int .i64 k0,.int .i64 n0,.string s0,.slice a0 len0 cap0])→Calls Tryz.prog 74 #[.agg #[.int .i64 k0,.int .i64 n0,.string s0,.slice a0 len0 cap0]] W (GivesI 0 W)):=fun W h=>by
    rw [← hchk];exact rcheck_any v W _ (by omega) h
   have HE:Hid (∀ W,RepV W v (.agg #[.int .i64 k0,.int .i64 n0,.string s0,.slice a0 len0 cap0])→Calls Tryz.prog 75 #[.agg #[.int .i64 k0,.int .i64 n0,.string s0,.slice a0 len0 cap0]] W (Fresh v.enc W)):=fun W h=>rencode_any _ v W _ (Nat.le_refl _) hle h
   have HCV:Hid (∀ W,Below w.heap.size w W→(convert 50 9 (.slice a v.enc.length cap)).run Tryz.prog W= .ok (.string ⟨v.enc.toArray⟩) W):=fun W h=>(HBY.out.below h).conv cap
   have HRF:Hid (RepF (fun b=>w.heap.size < b∧b < w4.heap.size) w4 v (.agg #[.int .i64 k0,.int .i64 n0,.string s0,.slice a0 len0 cap0])):=hrep.keep (fun b h=>⟨by have:=H0.out.rr.lt;omega,h.2⟩) (fun _ _=>rfl)
   have HX4:=Lib.hid hX4
   have HB4:=Lib.hid hb4
   have HBa:Hid (Below w.heap.size w (w4.alloc (.cells #[.int .i64 k0,.int .i64 n0,.string s0,.slice a0 len0 cap0] 79))):=hb4.alloc (by omega) _
   have HBb:Hid (Below w.heap.size w (w4.alloc (.cells #[.int .i64 k0,.int .i64 n0,.string s0,.slice a0 len0 cap0] 79)).drew):=(hb4.alloc (by omega) _).drew
   have HRa:Hid (RepV (w4.alloc (.cells #[.int .i64 k0,.int .i64 n0,.string s0,.slice a0 len0 cap0] 79)).drew v (.agg #[.int .i64 k0,.int .i64 n0,.string s0,.slice a0 len0 cap0])):=RepV.below (((Below.refl _ _).alloc (Nat.le_refl _) _).drew) hrv
   generalize v.enc=bs at *
   clear hds hd hchk hdep hle hrest hlr hrep hrv hX4 hb4 hrd4
   go_wp2_with fail
   have z0:(w4.alloc (.cells #[.int .i64 k0,.int .i64 n0,.string s0,.slice a0 len0 cap0] 79)).drew.cell? ⟨w4.heap.size,0,none⟩=some (.int .i64 k0):=by go_simp
   have z1:(w4.alloc (.cells #[.int .i64 k0,.int .i64 n0,.string s0,.slice a0 len0 cap0] 79)).drew.cell? ⟨w4.heap.size,1,none⟩=some (.int .i64 n0):=by go_simp
   have z2:(w4.alloc (.cells #[.int .i64 k0,.int .i64 n0,.string s0,.slice a0 len0 cap0] 79)).drew.cell? ⟨w4.heap.size,2,none⟩=some (.string s0):=by go_simp
   have z3:(w4.alloc (.cells #[.int .i64 k0,.int .i64 n0,.string s0,.slice a0 len0 cap0] 79)).drew.cell? ⟨w4.heap.size,3,none⟩=some (.slice a0 len0 cap0):=by go_simp
   go_region_with (first
     |(go_at_call 74;((with_reducible refine (HC.out _ HRa.out).mono ?_));rintro e w5 ⟨rfl,hb5⟩;have HB5:=Lib.hid (HBb.out.trans (hb5.mono HBb.out.size));have z50:=below_cell hb5 z0;have z51:=below_cell hb5 z1;have z52:=below_cell hb5 z2;have z53:=below_cell hb5 z3;have hcv5:=HCV.out _ HB5.out)
     |(go_at_call 75;((with_reducible refine (HE.out _ (RepV.below hb5 HRa.out)).mono ?_));rintro e w6 ⟨v6,rfl,hown6,hb6⟩;have HB6:=Lib.hid (HB5.out.trans (hb6.mono HB5.out.size));have hcv7:=HCV.out _ HB6.out;obtain ⟨a6,cap6,rfl,hby6,_⟩:=own_bytes hown6;have hcv6:=hby6.conv cap6))
   all_goals
    have hX6:=box_on HX4.out hsz (.cells #[.int .i64 k0,.int .i64 n0,.string s0,.slice a0 len0 cap0] 79) hb5 hb6
    have z60:=below_cell hb6 z50
    have z61:=below_cell hb6 z51
    have z62:=below_cell hb6 z52
    have z63:=below_cell hb6 z53
    have HRV6:=Lib.hid (rep_on HRF.out _ hb5 hb6 (.int .i64 k0) (.int .i64 n0) (.string s0) (.slice a0 len0 cap0))
    clear x0 x1 x2 x3 f0 f1 f2 f3 hcv5 hcv6 hcv7 hby6 hown6 hb5 hb6 z0 z1 z2 z3 z50 z51 z52 z53 y0 y1 y2 fy1 fy2
    obtain ⟨x0,x1,x2,x3⟩:=hX6.cells
    obtain ⟨f0,f1,f2,f3⟩:=hX6.free
    have HX6:=Lib.hid hX6
    clear hX6
    go_wp2
    have h6:=(HX6.out.all (.int .i64 k0) (.int .i64 n0) (.string s0) (.slice a0 len0 cap0)).cells
    have h7:=rdec_good (below_sets HB6.out (.int .i64 k0) (.int .i64 n0) (.string s0) (.slice a0 len0 cap0)) HRV6.out HDS.out
    clear HRV6
    generalize (((w6.setCell ⟨w.heap.size,0,none⟩ (.int .i64 k0)).setCell ⟨w.heap.size,1,none⟩ (.int .i64 n0)).setCell ⟨w.heap.size,2,none⟩ (.string s0)).setCell ⟨w.heap.size,3,none⟩ (.slice a0 len0 cap0)=W7 at *
    exact bodyPost_ret (v:= .tuple #[.agg #[.int .i64 k0,.int .i64 n0,.string s0,.slice a0 len0 cap0],.int .i64 0]) (by simp only [results,Tryz.results72];simp [go_sem,h6.1,h6.2.1,h6.2.2.1,h6.2.2.2]) rfl h7
  ·have hdn:dec bs=none:=dec_none hd (fun v' e=>by injection e with e;injection e with e1 e2;rw [e2] at hlr;simp at hlr;omega)
   have gat:((at':Int) != bs.length)=true:=by simp;omega
   have HB4:=Lib.hid hb4
   have HDN:=Lib.hid hdn
   have HX4:=Lib.hid hX4
   clear hb4 hdn hX4 hd hrep hrv hrd4 hlr hat hrest
   go_wp2_with fail
   go_quiet (fail)
   have hX5:Box4 ((w4.alloc (.cells #[.int .i64 k0,.int .i64 n0,.string s0,.slice a0 len0 cap0] 79)).drewN nq) w.heap.size (.int .i64 0) (.int .i64 0) (.string ⟨#[]⟩) (.slice none 0 0):=(Below.heap_alloc w4 _ _ (by omega)).trans HX4.out
   have hb5:=below_drewN (HB4.out.alloc (by omega) (.cells #[.int .i64 k0,.int .i64 n0,.string s0,.slice a0 len0 cap0] 79)) nq
   clear x0 x1 x2 x3 f0 f1 f2 f3
   generalize (w4.alloc (.cells #[.int .i64 k0,.int .i64 n0,.string s0,.slice a0 len0 cap0] 79)).drewN nq=W5 at *
   obtain ⟨x0,x1,x2,x3⟩:=hX5.cells
   obtain ⟨f0,f1,f2,f3⟩:=hX5.free
   have HX5:=Lib.hid hX5
   have HB5:=Lib.hid hb5
   clear hX5 hb5
   go_wp2
   have h6:=(HX5.out.all (.int .i64 0) (.int .i64 0) (.string ⟨#[]⟩) (.slice none 0 0)).cells
   have h7:=below_sets HB5.out (.int .i64 0) (.int .i64 0) (.string ⟨#[]⟩) (.slice none 0 0)
   generalize (((W5.setCell ⟨w.heap.size,0,none⟩ (.int .i64 0)).setCell ⟨w.heap.size,1,none⟩ (.int .i64 0)).setCell ⟨w.heap.size,2,none⟩ (.string ⟨#[]⟩)).setCell ⟨w.heap.size,3,none⟩ (.slice none 0 0)=W6 at *
   exact bodyPost_ret (v:= .tuple #[.agg #[.int .i64 0,.int .i64 0,.string ⟨#[]⟩,.slice none 0 0],.int .i64 10]) (by simp only [results,Tryz.results72];simp [go_sem,h6.1,h6.2.1,h6.2.2.1,h6.2.2.2]) rfl (decPost_bad HDN.out h7)
 ·have hX4:=H0.out.box.kept hg4 (by simp)
  have hb4:=below_by H0.out.by_ hg4 (by omega)
  have hsz:w.heap.size+1 < w4.heap.size:=hrd4.lt
  obtain ⟨a1,cap1,y0,y1,y2,fy1,fy2,hal,hbl⟩:=hrd4.cells
  obtain ⟨x0,x1,x2,x3⟩:=hX4.cells
  obtain ⟨f0,f1,f2,f3⟩:=hX4.free
  rw [List.drop_zero] at hd
  have hdn:dec bs=none:=dec_none hd (fun v' e=>by cases e)
  have HB4:=Lib.hid hb4
  have HDN:=Lib.hid hdn
  have HX4:=Lib.hid hX4
  clear hb4 hdn hX4 hd hrd4
  go_wp2_with fail
  go_quiet (fail)
  have hX5:Box4 ((w4.alloc (.cells #[.int .i64 k0,.int .i64 n0,.string s0,.slice a0 len0 cap0] 79)).drewN nq) w.heap.size (.int .i64 0) (.int .i64 0) (.string ⟨#[]⟩) (.slice none 0 0):=(Below.heap_alloc w4 _ _ (by omega)).trans HX4.out
  have hb5:=below_drewN (HB4.out.alloc (by omega) (.cells #[.int .i64 k0,.int .i64 n0,.string s0,.slice a0 len0 cap0] 79)) nq
  clear x0 x1 x2 x3 f0 f1 f2 f3
  generalize (w4.alloc (.cells #[.int .i64 k0,.int .i64 n0,.string s0,.slice a0 len0 cap0] 79)).drewN nq=W5 at *
  obtain ⟨x0,x1,x2,x3⟩:=hX5.cells
  obtain ⟨f0,f1,f2,f3⟩:=hX5.free
  have HX5:=Lib.hid hX5
  have HB5:=Lib.hid hb5
  clear hX5 hb5
  go_wp2
  have h6:=(HX5.out.all (.int .i64 0) (.int .i64 0) (.string ⟨#[]⟩) (.slice none 0 0)).cells
  have h7:=below_sets HB5.out (.int .i64 0) (.int .i64 0) (.string ⟨#[]⟩) (.slice none 0 0)
  generalize (((W5.setCell ⟨w.heap.size,0,none⟩ (.int .i64 0)).setCell ⟨w.heap.size,1,none⟩ (.int .i64 0)).setCell ⟨w.heap.size,2,none⟩ (.string ⟨#[]⟩)).setCell ⟨w.heap.size,3,none⟩ (.slice none 0 0)=W6 at *
  exact bodyPost_ret (v:= .tuple #[.agg #[.int .i64 0,.int .i64 0,.string ⟨#[]⟩,.slice none 0 0],.int .i64 10]) (by simp only [results,Tryz.results72];simp [go_sem,h6.1,h6.2.1,h6.2.2.1,h6.2.2.2]) rfl (decPost_bad HDN.out h7)
end Go.Proofs.YthidfoohhhkobaaGreat.Cd

namespace Go.Proofs.YthidfoohhhkobaaGreat
set_option linter.unusedSimpArgs false
open Go.RowKit
set_option linter.unusedVariables false
theorem rcdDec_spec (l:List UInt8) (hl:l.length≤1000000):Spec Tryz.prog 72 [.one (bsD l)] (.rt [.agg (valD ((Cd.dec l).getD Cd.V.zero)),aI (if (Cd.dec l).isSome then 0 else 10)]):=by
 intro F w us hF hus
 simp only [RAL] at hus
 obtain ⟨c,r,rfl,h1,rfl⟩:=hus
 simp only [RA,RD,List.length_map] at h1
 obtain ⟨a,cap,rfl,h2,h3,h4⟩:=h1
 refine Calls.mono (R:=Cd.DecPost l w) (Cd.rdecode_any l a cap w h2 hl (bytes_of _ h4) ?_) ?_
 ·cases l with
  |nil=>exact .inl rfl
  |cons c l=>
    refine .inr fun ad he=>?_
    subst he
    obtain ⟨b,o,us,e,_,h5,_,h6⟩:=RR.get (i:=0) h4 rfl
    cases e
    obtain ⟨u,rfl⟩:∃ u,us=[u]:=by match us,h5 with|[u],_=>exact ⟨u,rfl⟩
    exact hF.1 b _ (h6 0 u rfl).1
 rintro e w' ⟨c,rfl,hr,hb⟩
 obtain ⟨us,rfl,h5,h6,_⟩:=rdl_of_repF (F:=F.all w w') (fun b hb o=> .inr hb) _ _ hr
 exact ⟨_,F.all w w',rfl,hb,Ft.all_new _ _ _,_,rfl,_,_,rfl,⟨us,rfl,h5,h6⟩,_,_,rfl,by simp only [RA,RD],rfl⟩

set_option maxRecDepth 100000
theorem hd_z0 (h:Hd) (x y z:Int):splice (dV (handD h)) 0 [vI x,vI y,vI z]=dV (handD { h with line:=x,at_:=y,arr:=z }):=rfl
def rootP (s:List UInt8) (k:Nat):Vector UInt8 32:=Vector.ofFn fun i=>if i.val < k then s.getD i.val 0 else 0
theorem rootP_zero0 (s:List UInt8):rootP s 0=Vector.replicate 32 0:=by
 apply Vector.ext
 intro i hi
 simp [rootP]
theorem rootP_zero (s:List UInt8):rootP s 0=(default:Hd).root:=(rootP_zero0 s).trans rfl
theorem rootP_all (s:List UInt8) (h:s.length=32):rootP s 32=rootOf s:=by
 have hz:s.toArray.size=32:=by simpa using h
 rw [rootOf,dif_pos hz]
 apply Vector.ext
 intro i hi
 simp [rootP,hi,List.getD_eq_getElem?_getD,List.getElem?_eq_getElem (show i < s.length by omega)]
theorem splice_one:∀ (l:List V) (k:Nat) (x:V),k < l.length→splice l k [x]=l.set k x
 |a :: l,0,x,_=>by simp [splice]
 |a :: l,k+1,x,h=>by
   have:=splice_one l k x (by simpa using h)
   simp only [splice,List.length_singleton] at this ⊢
   simp [this]
theorem rootP_row (s:List UInt8) (k:Nat) (hk:k < 32):(dV (rootD (rootP s k).toList)).set k (.d (.c (.int .u8 ((s.getD k 0).toNat:Int))))=dV (rootD (rootP s (k+1)).toList):=by
 apply List.ext_getElem
 ·simp [dV,rootD]
 intro i h1 h2
 have hi:i < 32:=by simpa [dV,rootD] using h2
 rw [List.getElem_set]
 by_cases hik:k=i
 ·subst hik
  simp [dV,rootD,rootP,hi]
 ·rw [if_neg hik]
  have:(i < k+1)↔(i < k):=by omega
  simp [dV,rootD,rootP,hi,this]
theorem splice_mid (a b c:List V) (k:Nat) (x:V) (h:k < b.length):splice (a++(b++c)) (a.length+k) [x]=a++(b.set k x++c):=by
 rw [splice_one _ _ _ (by simp only [List.length_append];omega),List.set_append_right _ _ (by omega),Nat.add_sub_cancel_left,List.set_append_left _ _ h]
theorem root_set (h:Hd) (r r':Vector UInt8 32) (k:Nat) (x:V) (hk:k < 32) (hr:(dV (rootD r.toList)).set k x=dV (rootD r'.toList)):splice (dV (handD { h with root:=r })) (7+k) [x]=dV (handD { h with root:=r' }):=by
 have e1:dV (handD { h with root:=r })=hd7 h++(dV (rootD r.toList)++[vI h.time,vI h.se,vI h.ss]):=hd_parts _
 have e2:dV (handD { h with root:=r' })=hd7 h++(dV (rootD r'.toList)++[vI h.time,vI h.se,vI h.ss]):=hd_parts _
 have e3:7+k=(hd7 h).length+k:=by rw [show (hd7 h).length=7 from rfl]
 rw [e1,e2,e3,← hr]
 exact splice_mid _ _ _ k x (by simp [dV,rootD,hk])
theorem rootP_set (s:List UInt8) (h:Hd) (k:Nat) (hk:k < 32):splice (dV (handD { h with root:=rootP s k })) (7+k) [.d (.c (.int .u8 ((s.getD k 0).toNat:Int)))]=dV (handD { h with root:=rootP s (k+1) }):=
 root_set h _ _ k _ hk (rootP_row s k hk)
theorem hd_k40 (h:Hd) (x y:Int):List.take 40 (dV (handD h))++[vI x,vI y]=dV (handD { h with se:=x,ss:=y }):=by
 have h1:=hd_s40 h x y
 unfold splice at h1
 rw [show (dV (handD h)).drop (40+[vI x,vI y].length)=[] from List.drop_eq_nil_of_le (by rw [hd_sz];exact Nat.le_refl _),List.append_nil] at h1
 exact h1
def readP (b:List UInt8):Hd:=match Cd.dec b with
 |some v=>if vK v=3∧(vL v).length=11∧badF (vL v) 0 11=11 then hS (vL v) 11 else default
 |none=>default
theorem readP_ok {b:List UInt8} (h:(readH b).2=true):readP b=(readH b).1:=by
 unfold readP
 unfold readH at h ⊢
 cases hd:Cd.dec b with
 |none=>rfl
 |some v=>
   rw [hd] at h
   simp only [rdV] at h ⊢
   by_cases h3:vK v=3∧(vL v).length=11
   ·rw [if_pos h3] at h ⊢
    rw [Bool.and_eq_true] at h
    have hb:=of_decide_eq_true h.1
    rw [if_pos ⟨h3.1,h3.2,hb⟩,hb]
   ·rw [if_neg h3] at h
    cases h
def hA (l:List Cd.V):Hd:={ (default:Hd) with line:=vN (elAt l 0),at_:=vN (elAt l 1),arr:=vN (elAt l 2),leg:=vN (elAt l 3),frm:=vN (elAt l 4),to_:=vN (elAt l 5),many:=vN (elAt l 6) }
theorem hA_end (l:List Cd.V) (h:(vS (elAt l 7)).length=32):{ (hA l) with root:=rootP (vS (elAt l 7)) 32,time:=vN (elAt l 8),se:=vN (elAt l 9),ss:=vN (elAt l 10) }=hS l 11:=by
 rw [rootP_all _ h]
 rfl
end Go.Proofs.YthidfoohhhkobaaGreat
