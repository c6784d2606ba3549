import Derived.Test.YthidfoohhhkobaaGreatG17
namespace Go.Proofs.YthidfoohhhkobaaGreat.Cd
set_option linter.unusedSimpArgs false
set_option linter.unusedVariables false
open Go.RowKit
attribute [local go_sem ↓] Go.wp_at_zero Go.wp_at_succ
def NumRR (bs:List UInt8) (at_:Nat) (R:Nat) (w:World) (e:Ending) (w':World):Prop:=
 w.grownBy w' (some R)∧((∃ u r at',decNum (bs.drop at_)=some (u,r)∧e= .returned (.int .u64 (u:Nat))∧RR w' R bs at' false∧bs.drop at'=r)∨(decNum (bs.drop at_)=none∧e= .returned (.int .u64 0)∧∃ at',RR w' R bs at' true))
theorem RR.toBad {w:World} {R:Nat} {bs:List UInt8} {at_:Nat} {bad:Bool} (h:RR w R bs at_ bad) (b':Bool):RR (w.setCell ⟨R,2,none⟩ (.bool b')) R bs at_ b':=by
 obtain ⟨a,cap,h⟩:=h;exact ⟨a,cap,h.setBad b'⟩
theorem RR.cells {w:World} {R:Nat} {bs:List UInt8} {at_:Nat} {bad:Bool} (h:RR w R bs at_ bad):
  ∃ a cap,w.cell? ⟨R,0,none⟩=some (.slice a bs.length cap)∧w.cell? ⟨R,1,none⟩=some (.int .i64 at_)∧w.cell? ⟨R,2,none⟩=some (.bool bad)∧w.frozen? ⟨R,1,none⟩=false∧w.frozen? ⟨R,2,none⟩=false∧at_≤bs.length∧bs.length≤1000000:=by
 obtain ⟨a,cap,h⟩:=h
 obtain ⟨h0,h1,h2,h3,h4⟩:=h.cells
 exact ⟨a,cap,h0,h1,h2,h3,h4,h.2.2.2.2.2,h.2.2.1⟩
theorem add_val (u x i:Nat) (hx:x < 256) (hu:u < 128 ^ i) (h:i < 9∨(i=9∧x≤1)):
  IntKind.u64.wrap ((u:Int)+IntKind.u64.wrap ((x:Int) % 128 * 2 ^ (7 * i)))=((u+x % 128 * 128 ^ i:Nat):Int):=by
 have hf:=fit128 hx hu h
 have hp:((2:Int) ^ (7 * i))=((128 ^ i:Nat):Int):=by
  rw [Int.pow_mul];simp
 have hm:((x:Int) % 128)=((x % 128:Nat):Int):=by omega
 rw [hp,hm,← Int.natCast_mul,wrapU _ (by omega),← Int.natCast_add,wrapU _ hf]
theorem add_val0 (u x i:Nat) (hx:x < 256) (hu:u < 128 ^ i) (h0:i=0):IntKind.u64.wrap ((u:Int)+(x:Int) % 128)=((u+x % 128 * 128 ^ i:Nat):Int):=by
 have:=add_val u x i hx hu (by omega)
 subst h0
 rw [← this]
 have hm:((x:Int) % 128)=((x % 128:Nat):Int):=by omega
 simp only [Nat.mul_zero,Int.pow_zero,Int.mul_one]
 rw [hm,wrapU _ (by omega)]
set_option maxRecDepth 100000 in
set_option maxHeartbeats 3200000 in
theorem rnumber_any (bs:List UInt8) (at_:Nat) (R:Nat) (w:World) (hr:RR w R bs at_ false):Calls Tryz.prog 113 #[.pointer (some ⟨R,0,none⟩)] w (NumRR bs at_ R w):=by
 have HR:=Lib.hid hr
 clear hr
 go_enter Tryz.func113,Tryz.ntmps113
 go_wp2
 go_loopw [3,4] (fun x y wr=>∃ (i u at':Nat),i≤9∧y= .int .i64 i∧x= .int .u64 u∧u < 128 ^ i∧RR wr R bs at' false∧w.grownBy wr (some R)∧Hid (numK i u (decN (10 - i) i (bs.drop at'))=decNum (bs.drop at_))) (fun _ y _=>10 - (intOf y).toNat)
 case atStart=>exact ⟨0,0,at_,by omega,rfl,rfl,by simp,HR.out,grownBy_refl _ _,numK_zero _⟩
 case round=>
  obtain ⟨i,u,at',hi,rfl,rfl,hu,hrd,hgr,hnum⟩:=hrel
  obtain ⟨a,cap,x0,x1,x2,f1,f2,hal,hbl⟩:=hrd.cells
  have HRD:=Lib.hid hrd
  have HU:=Lib.hid hu
  obtain ⟨f,hf⟩:∃ f,10 - i=f+1:=⟨9 - i,by omega⟩
  rw [hf] at hnum
  clear hrd hu
  by_cases hend:at'=bs.length
  ·subst hend
   have HDN:Hid (decNum (bs.drop at_)=none):=by unfold Hid;rw [← hnum.out,List.drop_length,num_nil];rfl
   by_cases h0:i=0
   ·subst h0
    obtain rfl:u=0:=by have:=HU.out;simpa using this
    go_wp2_with fail
    refine (next_end R bs false wr HRD.out).mono ?_
    rintro e w1 ⟨rfl,hr1,hg1⟩
    have hg2:=grownBy_trans1 hgr hg1
    go_wp2
    go_ret
    exact ⟨hg2,.inr ⟨HDN.out,rfl,_,hr1⟩⟩
   ·have hpos:(0:Int) < i:=by omega
    by_cases h9:i=9
    ·subst h9
     go_wp2_with fail
     refine (next_end R bs false wr HRD.out).mono ?_
     rintro e w1 ⟨rfl,hr1,hg1⟩
     have hg2:=grownBy_trans1 hgr hg1
     obtain ⟨a1,cap1,y0,y1,y2,fy1,fy2,_,_⟩:=hr1.cells
     go_wp2
     go_ret
     exact ⟨grownBy_setR hg2 _ _,.inr ⟨HDN.out,rfl,_,hr1.toBad true⟩⟩
    ·have g9:((i:Int)==9)=false:=by simp;omega
     go_wp2_with fail
     refine (next_end R bs false wr HRD.out).mono ?_
     rintro e w1 ⟨rfl,hr1,hg1⟩
     have hg2:=grownBy_trans1 hgr hg1
     obtain ⟨a1,cap1,y0,y1,y2,fy1,fy2,_,_⟩:=hr1.cells
     go_wp2
     go_ret
     exact ⟨grownBy_setR hg2 _ _,.inr ⟨HDN.out,rfl,_,hr1.toBad true⟩⟩
  ·have hlt:at' < bs.length:=by omega
   have hdrop:=List.drop_eq_getElem_cons hlt
   rw [hdrop] at hnum
   have hnx:=next_some R bs at' false wr HRD.out hlt
   obtain ⟨c,hcE⟩:∃ c,bs[at']=c:=⟨_,rfl⟩
   rw [hcE] at hnum hnx
   have hst:=fun h=>num_bad (f:=f) (i:=i) (c:=c) (r:=bs.drop (at'+1)) h
   have hen:=fun h h2=>num_end (f:=f) (i:=i) (u:=u) (c:=c) (r:=bs.drop (at'+1)) h h2
   have hgo:=fun h h2=>num_go (f:=f) (i:=i) (u:=u) (c:=c) (r:=bs.drop (at'+1)) h h2
   rw [hnum.out] at hen hgo
   have hxb:=c.toNat_lt
   generalize c.toNat=x at *
   have HNX:=Lib.hid hnx
   have HST:=Lib.hid hst
   have HEN:=Lib.hid hen
   have HGO:=Lib.hid hgo
   have HX:Hid (x < 256):=hxb
   have hxi:(x:Int) < 256:=by omega
   clear hst hen hgo hnx hdrop hxb hcE
   by_cases hcond:(i=0∨x≠0)∧(i < 9∨x≤1)
   ·have HCO:=Lib.hid hcond
    have HFI:=Lib.hid (show i < 9∨(i=9∧x≤1) by omega)
    by_cases h0:i=0
    ·have g9:((i:Int)==9)=false:=by simp;omega
     have hd0:decide ((0:Int) < i)=false:=by simp;omega
     have hd0':decide (0 < i)=false:=by simp;omega
     clear hcond
     go_wp2_with fail
     refine (HNX.out).mono ?_
     rintro e w1 ⟨rfl,hr1,hg1⟩
     have hg2:=grownBy_trans1 hgr hg1
     obtain ⟨a1,cap1,y0,y1,y2,fy1,fy2,_,_⟩:=hr1.cells
     go_wp2
     ·go_ret
      have hxq:(x:Int) < 128:=by assumption
      have hxl:x < 128:=by omega
      refine ⟨hg2,.inl ⟨_,_,at'+1,HEN.out HCO.out hxl,?_,hr1,rfl⟩⟩
      exact ret_int (by rw [add_val0 u x i HX.out HU.out h0,mod_lt128 hxl])
     ·go_roundw
      case rel=>
       have hxq:(128:Int)≤x:=by assumption
       have hx2:¬ x < 128:=by omega
       refine ⟨i+1,u+(x - 128) * 128 ^ i,at'+1,by omega,by go_num,?_,?_,hr1,hg2,?_⟩
       ·rw [add_val0 u x i HX.out HU.out h0,mod_ge128 hx2 HX.out]
       ·have h1:=HU.out
        have h2:(x - 128) * 128 ^ i≤127 * 128 ^ i:=Nat.mul_le_mul_right _ (by have:=HX.out;omega)
        rw [Nat.pow_succ];omega
       ·have e1:10 - (i+1)=f:=by omega
        rw [e1]
        exact (HGO.out HCO.out hx2).symm
      case measure=>simp [intOf];omega
    ·have hpos:(0:Int) < i:=by omega
     have g2:((x:Int)==0)=false:=by simp;omega
     by_cases h9:i=9
     ·have g9:((i:Int)==9)=true:=by simp;omega
      have hd1:decide ((1:Int) < x)=false:=by simp;omega
      have hd1':decide (1 < x)=false:=by simp;omega
      have hx1:(x:Int)≤1:=by omega
      clear hcond h9
      go_wp2_with fail
      refine (HNX.out).mono ?_
      rintro e w1 ⟨rfl,hr1,hg1⟩
      have hg2:=grownBy_trans1 hgr hg1
      obtain ⟨a1,cap1,y0,y1,y2,fy1,fy2,_,_⟩:=hr1.cells
      go_wp2
      ·go_ret
       have hxq:(x:Int) < 128:=by assumption
       have hxl:x < 128:=by omega
       refine ⟨hg2,.inl ⟨_,_,at'+1,HEN.out HCO.out hxl,?_,hr1,rfl⟩⟩
       exact ret_int (by rw [add_val u x i HX.out HU.out HFI.out,mod_lt128 hxl])
     ·have g9:((i:Int)==9)=false:=by simp;omega
      clear hcond
      go_wp2_with fail
      refine (HNX.out).mono ?_
      rintro e w1 ⟨rfl,hr1,hg1⟩
      have hg2:=grownBy_trans1 hgr hg1
      obtain ⟨a1,cap1,y0,y1,y2,fy1,fy2,_,_⟩:=hr1.cells
      go_wp2
      ·go_ret
       have hxq:(x:Int) < 128:=by assumption
       have hxl:x < 128:=by omega
       refine ⟨hg2,.inl ⟨_,_,at'+1,HEN.out HCO.out hxl,?_,hr1,rfl⟩⟩
       exact ret_int (by rw [add_val u x i HX.out HU.out HFI.out,mod_lt128 hxl])
      ·go_roundw
       case rel=>
        have hxq:(128:Int)≤x:=by assumption
        have hx2:¬ x < 128:=by omega
        refine ⟨i+1,u+(x - 128) * 128 ^ i,at'+1,by omega,by go_num,?_,?_,hr1,hg2,?_⟩
        ·rw [add_val u x i HX.out HU.out HFI.out,mod_ge128 hx2 HX.out]
        ·have h1:=HU.out
         have h2:(x - 128) * 128 ^ i≤127 * 128 ^ i:=Nat.mul_le_mul_right _ (by have:=HX.out;omega)
         rw [Nat.pow_succ];omega
        ·have e1:10 - (i+1)=f:=by omega
         rw [e1]
         exact (HGO.out HCO.out hx2).symm
       case measure=>simp [intOf];omega
   ·have HDN:Hid (decNum (bs.drop at_)=none):=by unfold Hid;rw [← hnum.out,HST.out hcond];rfl
    have hpos:(0:Int) < i:=by omega
    by_cases h9:i=9
    ·have g9:((i:Int)==9)=true:=by simp;omega
     by_cases hx1:(1:Int) < x
     ·clear hcond h9
      go_wp2_with fail
      refine (HNX.out).mono ?_
      rintro e w1 ⟨rfl,hr1,hg1⟩
      have hg2:=grownBy_trans1 hgr hg1
      obtain ⟨a1,cap1,y0,y1,y2,fy1,fy2,_,_⟩:=hr1.cells
      go_wp2
      go_ret
      exact ⟨grownBy_setR hg2 _ _,.inr ⟨HDN.out,rfl,_,hr1.toBad true⟩⟩
     ·have g2:((x:Int)==0)=true:=by simp;omega
      have hd1:decide ((1:Int) < x)=false:=by simp;omega
      have hd1':decide (1 < x)=false:=by simp;omega
      clear hcond h9
      go_wp2_with fail
      refine (HNX.out).mono ?_
      rintro e w1 ⟨rfl,hr1,hg1⟩
      have hg2:=grownBy_trans1 hgr hg1
      obtain ⟨a1,cap1,y0,y1,y2,fy1,fy2,_,_⟩:=hr1.cells
      go_wp2
      go_ret
      exact ⟨grownBy_setR hg2 _ _,.inr ⟨HDN.out,rfl,_,hr1.toBad true⟩⟩
    ·have g9:((i:Int)==9)=false:=by simp;omega
     have g2:((x:Int)==0)=true:=by simp;omega
     clear hcond h9
     go_wp2_with fail
     refine (HNX.out).mono ?_
     rintro e w1 ⟨rfl,hr1,hg1⟩
     have hg2:=grownBy_trans1 hgr hg1
     obtain ⟨a1,cap1,y0,y1,y2,fy1,fy2,_,_⟩:=hr1.cells
     go_wp2
     go_ret
     exact ⟨grownBy_setR hg2 _ _,.inr ⟨HDN.out,rfl,_,hr1.toBad true⟩⟩
end Go.Proofs.YthidfoohhhkobaaGreat.Cd

namespace Go.Proofs.YthidfoohhhkobaaGreat.Cd
set_option linter.unusedSimpArgs false
set_option linter.unusedVariables false
open Go.RowKit
attribute [local go_sem ↓] Go.wp_at_zero Go.wp_at_succ
theorem size27 (w:World):(sizeOf (Tryz.prog.elem 50)).run Tryz.prog w= .ok 1 w:=by kernel_rfl
theorem elem27:Tryz.prog.underlying 50=some (.slice (Tryz.prog.elem 50)):=by kernel_rfl
theorem slice_lh (a:Option Addr) (len cap lo u:Nat) (h:lo+u≤cap) (w:World):
  (Instr.slice 50 (.slice a len cap) (some (.int .i64 (lo:Int))) (some (.int .i64 ((lo:Int)+u))) none).run Tryz.prog w= .ok (.slice (cutA a cap lo) u (cap - lo)) w:=by
 rw [run_slice_lh (P:=Tryz.prog) w 50 a len cap elem27 .i64 .i64 (lo:Int) ((lo:Int)+u) (by omega) (by omega) (by omega),size27 w]
 have e:((lo:Int)+u).toNat=lo+u:=by omega
 have e2:lo+u - lo=u:=by omega
 simp only [Result.andThen_ok,sliced,e,Int.toNat_natCast,cutA]
 simp [e2]
theorem RR.bytes {w:World} {R:Nat} {bs:List UInt8} {at_:Nat} {bad:Bool} (h:RR w R bs at_ bad) {a:Option Addr} {len cap:Nat} (hc:w.cell? ⟨R,0,none⟩=some (.slice a len cap)):Bytes w a bs∧bs.length≤cap:=by
 obtain ⟨a',cap',h⟩:=h
 rw [h.cells.1] at hc
 injection hc with hc
 injection hc with e1 e2 e3
 subst e1 e3
 exact ⟨h.2.2.2.1,h.2.1⟩
def RVal (d:Nat) (bs:List UInt8) (at_:Nat) (R:Nat) (w:World) (e:Ending) (w':World):Prop:=
 w.grownBy w' (some R)∧((∃ v r c at',decV d (bs.drop at_)=some (v,r)∧e= .returned c∧RepF (fun b=>w.heap.size≤b∧b < w'.heap.size) w' v c∧RR w' R bs at' false∧bs.drop at'=r)∨
  (decV d (bs.drop at_)=none∧∃ k n s a len cap at',e= .returned (.agg #[.int .i64 k,.int .i64 n,.string s,.slice a len cap])∧RR w' R bs at' true))
structure RV0 (w:World) (R:Nat) (bs:List UInt8) (at_:Nat) (bad:Bool) (W:World):Prop where
 rr:RR W R bs at_ bad
 box:Box4 W w.heap.size (.int .i64 0) (.int .i64 0) (.string ⟨#[]⟩) (.slice none 0 0)
 by_:w.grownBy W (some R)
 rlt:R < w.heap.size
theorem rv0_of {w:World} {R:Nat} {bs:List UInt8} {at_:Nat} {bad:Bool} (h:RR w R bs at_ bad):RV0 w R bs at_ bad (w.alloc (.cells #[.int .i64 0,.int .i64 0,.string ⟨#[]⟩,.slice none 0 0] 79)):=
 ⟨h.alloc _,Box4.new w _ _ _ _,World.grownBy_alloc _ _ _,h.lt⟩
theorem RV0.step {w W W':World} {R:Nat} {bs:List UInt8} {at_ at':Nat} {bad bad':Bool} (h:RV0 w R bs at_ bad W) (hr:RR W' R bs at' bad') (hg:W.grownBy W' (some R)):RV0 w R bs at' bad' W':=
 ⟨hr,h.box.kept hg (by have:=h.rlt;simp;omega),grownBy_trans1 h.by_ hg,h.rlt⟩
theorem Box4.all {w:World} {X:Nat} {c0 c1 c2 c3:Value} (h:Box4 w X c0 c1 c2 c3) (d0 d1 d2 d3:Value):Box4 ((((w.setCell ⟨X,0,none⟩ d0).setCell ⟨X,1,none⟩ d1).setCell ⟨X,2,none⟩ d2).setCell ⟨X,3,none⟩ d3) X d0 d1 d2 d3:=(((h.set0 _).set1 _).set2 _).set3 _
theorem RR.all {w:World} {R:Nat} {bs:List UInt8} {at_:Nat} {bad:Bool} (h:RR w R bs at_ bad) {X:Nat} (hX:R < X) (d0 d1 d2 d3:Value):RR ((((w.setCell ⟨X,0,none⟩ d0).setCell ⟨X,1,none⟩ d1).setCell ⟨X,2,none⟩ d2).setCell ⟨X,3,none⟩ d3) R bs at_ bad:=(((h.set _ _ _ hX).set _ _ _ hX).set _ _ _ hX).set _ _ _ hX
theorem grownBy_all {a w:World} {R:Nat} (h:a.grownBy w (some R)) {X:Nat} (hX:a.heap.size≤X) (d0 d1 d2 d3:Value):a.grownBy ((((w.setCell ⟨X,0,none⟩ d0).setCell ⟨X,1,none⟩ d1).setCell ⟨X,2,none⟩ d2).setCell ⟨X,3,none⟩ d3) (some R):=
 grownBy_set (grownBy_set (grownBy_set (grownBy_set h _ _ _ hX) _ _ _ hX) _ _ _ hX) _ _ _ hX
theorem RV0.toBad {w W:World} {R:Nat} {bs:List UInt8} {at_:Nat} {bad:Bool} (h:RV0 w R bs at_ bad W):RV0 w R bs at_ true (W.setCell ⟨R,2,none⟩ (.bool true)):=
 h.step (h.rr.toBad true) (grownBy_setR (grownBy_refl _ _) _ _)
theorem RV0.drewN {w W:World} {R:Nat} {bs:List UInt8} {at_:Nat} {bad:Bool} (h:RV0 w R bs at_ bad W) (n:Nat):RV0 w R bs at_ bad (W.drewN n):=⟨h.rr,h.box,grownBy_drewN h.by_ n,h.rlt⟩
theorem RV0.setAt {w W:World} {R:Nat} {bs:List UInt8} {at_:Nat} {bad:Bool} (h:RV0 w R bs at_ bad W) (at':Nat) (ha:at'≤bs.length):RV0 w R bs at' bad (W.setCell ⟨R,1,none⟩ (.int .i64 at')):=by
 obtain ⟨a,cap,hr⟩:=h.rr
 exact h.step ⟨a,cap,hr.setAt at' ha⟩ (grownBy_setR (grownBy_refl _ _) _ _)
structure RV4 (w:World) (R:Nat) (bs:List UInt8) (at_:Nat) (bad:Bool) (d0 d1 d2 d3:Value) (W:World):Prop where
 rr:RR W R bs at_ bad
 c0:W.cell? ⟨w.heap.size,0,none⟩=some d0
 c1:W.cell? ⟨w.heap.size,1,none⟩=some d1
 c2:W.cell? ⟨w.heap.size,2,none⟩=some d2
 c3:W.cell? ⟨w.heap.size,3,none⟩=some d3
 by_:w.grownBy W (some R)
theorem RV0.res {w W:World} {R:Nat} {bs:List UInt8} {at_:Nat} {bad:Bool} (h:RV0 w R bs at_ bad W) (d0 d1 d2 d3:Value):
  RV4 w R bs at_ bad d0 d1 d2 d3 ((((W.setCell ⟨w.heap.size,0,none⟩ d0).setCell ⟨w.heap.size,1,none⟩ d1).setCell ⟨w.heap.size,2,none⟩ d2).setCell ⟨w.heap.size,3,none⟩ d3):=by
 obtain ⟨z0,z1,z2,z3⟩:=(h.box.all d0 d1 d2 d3).cells
 exact ⟨h.rr.all h.rlt _ _ _ _,z0,z1,z2,z3,grownBy_all h.by_ (Nat.le_refl _) _ _ _ _⟩
theorem RV4.bad {d:Nat} {w W:World} {R:Nat} {bs:List UInt8} {at0 at_:Nat} {k n:Int} {s:ByteArray} {a:Option Addr} {len cap:Nat} (h:RV4 w R bs at_ true (.int .i64 k) (.int .i64 n) (.string s) (.slice a len cap) W) (hd:decV d (bs.drop at0)=none):
  RVal d bs at0 R w (.returned (.agg #[.int .i64 k,.int .i64 n,.string s,.slice a len cap])) W:=⟨h.by_,.inr ⟨hd,k,n,s,a,len,cap,at_,rfl,h.rr⟩⟩
theorem RV4.good {d:Nat} {w W:World} {R:Nat} {bs r:List UInt8} {at0 at_:Nat} {k n:Int} {s:List UInt8} (h:RV4 w R bs at_ false (.int .i64 k) (.int .i64 n) (.string ⟨s.toArray⟩) (.slice none 0 0) W) (hd:decV d (bs.drop at0)=some (.mk k n s [],r)) (hr:bs.drop at_=r) (hk:i64R k) (hn:i64R n) (hs:s.length≤140737488351232):
  RVal d bs at0 R w (.returned (.agg #[.int .i64 k,.int .i64 n,.string ⟨s.toArray⟩,.slice none 0 0])) W:=⟨h.by_,.inl ⟨_,r,_,at_,hd,rfl,repF_leaf hk hn hs,h.rr,hr⟩⟩
set_option maxRecDepth 100000 in
set_option maxHeartbeats 3200000 in
theorem rvalue_end (d:Nat) (bs:List UInt8) (R:Nat) (w:World) (hr:RR w R bs bs.length false) (dep:Int):
  Calls Tryz.prog 94 #[.pointer (some ⟨R,0,none⟩),.int .i64 dep] w (RVal d bs bs.length R w):=by
 have HDN:Hid (decV d (bs.drop bs.length)=none):=by unfold Hid;rw [List.drop_length,decV_nil]
 have H0:=Lib.hid (rv0_of hr)
 have hRl:=hr.lt
 clear hr
 go_enter Tryz.func94,Tryz.ntmps94
 go_wp2_with fail
 refine (next_end R bs false _ H0.out.rr).mono ?_
 rintro e w1 ⟨rfl,hr1,hg1⟩
 have h1:=H0.out.step hr1 hg1
 obtain ⟨a1,cap1,y0,y1,y2,fy1,fy2,_,_⟩:=h1.rr.cells
 obtain ⟨x0,x1,x2,x3⟩:=h1.box.cells
 obtain ⟨f0,f1,f2,f3⟩:=h1.box.free
 have hne:¬ w.heap.size=R:=by omega
 have H1:=Lib.hid h1
 clear h1 hr1 hg1
 go_wp2
 have h5:=H1.out.toBad.res (.int .i64 0) (.int .i64 0) (.string ⟨#[]⟩) (.slice none 0 0)
 generalize ((((w1.setCell ⟨R,2,none⟩ (.bool true)).setCell ⟨w.heap.size,0,none⟩ (.int .i64 0)).setCell ⟨w.heap.size,1,none⟩ (.int .i64 0)).setCell ⟨w.heap.size,2,none⟩ (.string ⟨#[]⟩)).setCell ⟨w.heap.size,3,none⟩ (.slice none 0 0)=W5 at *
 exact bodyPost_ret (v:= .agg #[.int .i64 0,.int .i64 0,.string ⟨#[]⟩,.slice none 0 0]) (by simp only [results,Tryz.results94];simp [go_sem,h5.c0,h5.c1,h5.c2,h5.c3]) rfl (h5.bad HDN.out)
set_option maxRecDepth 100000 in
set_option maxHeartbeats 3200000 in
theorem rvalue_o (d:Nat) (bs:List UInt8) (at_:Nat) (c:UInt8) (r:List UInt8) (R:Nat) (w:World) (hr:RR w R bs at_ false) (hlt:at_ < bs.length) (hc:bs[at_]=c) (h1:¬ c.toNat=1) (h2:¬ c.toNat=2) (h3:¬ c.toNat=3) (dep:Int):
  Calls Tryz.prog 94 #[.pointer (some ⟨R,0,none⟩),.int .i64 dep] w (RVal d bs at_ R w):=by
 have HDN:Hid (decV d (bs.drop at_)=none):=by unfold Hid;rw [List.drop_eq_getElem_cons hlt,hc,decV_o _ _ _ h1 h2 h3]
 have H0:=Lib.hid (rv0_of hr)
 have hRl:=hr.lt
 have hnx:=next_some R bs at_ false _ H0.out.rr hlt
 rw [hc] at hnx
 have hxb:=c.toNat_lt
 generalize c.toNat=x at *
 have g1:((x:Int)==1)=false:=by simp;omega
 have g2:((x:Int)==2)=false:=by simp;omega
 have g3:((x:Int)==3)=false:=by simp;omega
 have hx256:(x:Int) < 256:=by omega
 have HNX:=Lib.hid hnx
 clear hr hc h1 h2 h3 hnx hxb
 go_enter Tryz.func94,Tryz.ntmps94
 go_wp2_with fail
 refine (HNX.out).mono ?_
 rintro e w1 ⟨rfl,hr1,hg1⟩
 have h1:=H0.out.step hr1 hg1
 obtain ⟨a1,cap1,y0,y1,y2,fy1,fy2,_,_⟩:=h1.rr.cells
 obtain ⟨x0,x1,x2,x3⟩:=h1.box.cells
 obtain ⟨f0,f1,f2,f3⟩:=h1.box.free
 have hne:¬ w.heap.size=R:=by omega
 have H1:=Lib.hid h1
 clear h1 hr1 hg1
 go_wp2
 have h5:=H1.out.toBad.res (.int .i64 0) (.int .i64 0) (.string ⟨#[]⟩) (.slice none 0 0)
 generalize ((((w1.setCell ⟨R,2,none⟩ (.bool true)).setCell ⟨w.heap.size,0,none⟩ (.int .i64 0)).setCell ⟨w.heap.size,1,none⟩ (.int .i64 0)).setCell ⟨w.heap.size,2,none⟩ (.string ⟨#[]⟩)).setCell ⟨w.heap.size,3,none⟩ (.slice none 0 0)=W5 at *
 exact bodyPost_ret (v:= .agg #[.int .i64 0,.int .i64 0,.string ⟨#[]⟩,.slice none 0 0]) (by simp only [results,Tryz.results94];simp [go_sem,h5.c0,h5.c1,h5.c2,h5.c3]) rfl (h5.bad HDN.out)
set_option maxRecDepth 100000 in
set_option maxHeartbeats 3200000 in
theorem rvalue_1 (d:Nat) (bs:List UInt8) (at_:Nat) (c:UInt8) (R:Nat) (w:World) (hr:RR w R bs at_ false) (hlt:at_ < bs.length) (hc:bs[at_]=c) (hx:c.toNat=1) (dep:Int):
  Calls Tryz.prog 94 #[.pointer (some ⟨R,0,none⟩),.int .i64 dep] w (RVal d bs at_ R w):=by
 have HDV:Hid (decV d (bs.drop at_)=decInt (bs.drop (at_+1))):=by unfold Hid;rw [List.drop_eq_getElem_cons hlt,hc,decV_1 _ _ _ hx]
 have H0:=Lib.hid (rv0_of hr)
 have hRl:=hr.lt
 have hnx:=next_some R bs at_ false _ H0.out.rr hlt
 rw [hc,hx] at hnx
 have hne:¬ w.heap.size=R:=by omega
 have HNX:=Lib.hid hnx
 clear hr hc hx hnx
 go_enter Tryz.func94,Tryz.ntmps94
 go_wp2_with fail
 refine (HNX.out).mono ?_
 rintro e w1 ⟨rfl,hr1,hg1⟩
 have h1:=H0.out.step hr1 hg1
 have H1:=Lib.hid h1
 clear h1 hr1 hg1 H0 HNX
 go_wp2_with fail
 refine (rnumber_any bs (at_+1) R w1 H1.out.rr).mono ?_
 rintro e w2 ⟨hg2,⟨u,r,at',hd,rfl,hr2,hrest⟩|⟨hd,rfl,at',hr2⟩⟩
 ·have h2:=H1.out.step hr2 hg2
  obtain ⟨x0,x1,x2,x3⟩:=h2.box.cells
  obtain ⟨f0,f1,f2,f3⟩:=h2.box.free
  have H2:=Lib.hid h2
  have hu:=(decNum_lt hd).1
  have HDD:Hid (decV d (bs.drop at_)=some (.mk 1 (unzz u) [] [],r)):=by unfold Hid;rw [HDV.out];unfold decInt;rw [hd]
  have HUR:=Lib.hid (unzz_R hu)
  have HRS:=Lib.hid hrest
  have hu2:(u:Int) / 2≤9223372036854775807:=by omega
  clear h2 hr2 hg2 hd hrest
  by_cases hodd:u % 2=1
  ·have HZ:Hid (unzz u= -((u:Int) / 2) - 1):=by unfold Hid unzz;rw [if_neg (by omega)];omega
   have go1:((u:Int) % 2==1)=true:=by simp;omega
   have hu3:(u:Int)≤18446744073709551615:=by omega
   clear hodd hu
   go_wp2
   have h5:=H2.out.res (.int .i64 1) (.int .i64 (-((u:Int) / 2) - 1)) (.string ⟨#[]⟩) (.slice none 0 0)
   generalize (((w2.setCell ⟨w.heap.size,0,none⟩ (.int .i64 1)).setCell ⟨w.heap.size,1,none⟩ (.int .i64 (-((u:Int) / 2) - 1))).setCell ⟨w.heap.size,2,none⟩ (.string ⟨#[]⟩)).setCell ⟨w.heap.size,3,none⟩ (.slice none 0 0)=W5 at *
   exact bodyPost_ret (v:= .agg #[.int .i64 1,.int .i64 (-((u:Int) / 2) - 1),.string ⟨#[]⟩,.slice none 0 0]) (by simp only [results,Tryz.results94];simp [go_sem,h5.c0,h5.c1,h5.c2,h5.c3]) rfl (h5.good (s:=[]) (by rw [HDD.out,HZ.out]) HRS.out (by unfold i64R;omega) (by have:=HUR.out;rw [HZ.out] at this;exact this) (by simp))
  ·have HZ:Hid (unzz u=(u:Int) / 2):=by unfold Hid unzz;rw [if_pos (by omega)];omega
   have go1:((u:Int) % 2==1)=false:=by simp;omega
   have hu3:(u:Int)≤18446744073709551615:=by omega
   clear hodd hu
   go_wp2
   have h5:=H2.out.res (.int .i64 1) (.int .i64 ((u:Int) / 2)) (.string ⟨#[]⟩) (.slice none 0 0)
   generalize (((w2.setCell ⟨w.heap.size,0,none⟩ (.int .i64 1)).setCell ⟨w.heap.size,1,none⟩ (.int .i64 ((u:Int) / 2))).setCell ⟨w.heap.size,2,none⟩ (.string ⟨#[]⟩)).setCell ⟨w.heap.size,3,none⟩ (.slice none 0 0)=W5 at *
   exact bodyPost_ret (v:= .agg #[.int .i64 1,.int .i64 ((u:Int) / 2),.string ⟨#[]⟩,.slice none 0 0]) (by simp only [results,Tryz.results94];simp [go_sem,h5.c0,h5.c1,h5.c2,h5.c3]) rfl (h5.good (s:=[]) (by rw [HDD.out,HZ.out]) HRS.out (by unfold i64R;omega) (by have:=HUR.out;rw [HZ.out] at this;exact this) (by simp))
 ·have h2:=H1.out.step hr2 hg2
  obtain ⟨x0,x1,x2,x3⟩:=h2.box.cells
  obtain ⟨f0,f1,f2,f3⟩:=h2.box.free
  have H2:=Lib.hid h2
  have HDN:Hid (decV d (bs.drop at_)=none):=by unfold Hid;rw [HDV.out];unfold decInt;rw [hd]
  clear h2 hr2 hg2 hd
  go_wp2
  have h5:=H2.out.res (.int .i64 1) (.int .i64 0) (.string ⟨#[]⟩) (.slice none 0 0)
  generalize (((w2.setCell ⟨w.heap.size,0,none⟩ (.int .i64 1)).setCell ⟨w.heap.size,1,none⟩ (.int .i64 0)).setCell ⟨w.heap.size,2,none⟩ (.string ⟨#[]⟩)).setCell ⟨w.heap.size,3,none⟩ (.slice none 0 0)=W5 at *
  exact bodyPost_ret (v:= .agg #[.int .i64 1,.int .i64 0,.string ⟨#[]⟩,.slice none 0 0]) (by simp only [results,Tryz.results94];simp [go_sem,h5.c0,h5.c1,h5.c2,h5.c3]) rfl (h5.bad HDN.out)
theorem decText_no {r:List UInt8} (h:decNum r=none):decText r=none:=by unfold decText;rw [h]
theorem decText_long {r r':List UInt8} {n:Nat} (h:decNum r=some (n,r')) (hn:¬ n≤r'.length):decText r=none:=by unfold decText;rw [h];simp [hn]
theorem decText_ok {r r':List UInt8} {n:Nat} (h:decNum r=some (n,r')) (hn:n≤r'.length):decText r=some (.mk 2 0 (r'.take n) [],r'.drop n):=by unfold decText;rw [h];simp [hn]
end Go.Proofs.YthidfoohhhkobaaGreat.Cd

namespace Go.Proofs.YthidfoohhhkobaaGreat.Cd
set_option linter.unusedSimpArgs false
set_option linter.unusedVariables false
open Go.RowKit
attribute [local go_sem ↓] Go.wp_at_zero Go.wp_at_succ
theorem RVal.drew {d:Nat} {bs:List UInt8} {at_ R:Nat} {w W:World} {e:Ending} (h:RVal d bs at_ R w e W):RVal d bs at_ R w e W.drew:=by
 obtain ⟨h1,h2⟩:=h
 refine ⟨⟨h1.os,h1.tape,h1.output,h1.size,h1.block⟩,h2.imp ?_ id⟩
 rintro ⟨v,r,c,at',a1,a2,a3,a4⟩
 exact ⟨v,r,c,at',a1,a2,RepF.keep (w:=W) (w':=W.drew) (F:=fun b=>w.heap.size≤b∧b < W.heap.size) (F':=fun b=>w.heap.size≤b∧b < W.drew.heap.size) (fun _ h=>h) (fun _ _=>rfl) a3,a4⟩
set_option maxRecDepth 100000 in
set_option maxHeartbeats 3200000 in
theorem rvalue_2 (d:Nat) (bs:List UInt8) (at_:Nat) (c:UInt8) (R:Nat) (w:World) (hr:RR w R bs at_ false) (hlt:at_ < bs.length) (hc:bs[at_]=c) (hx:c.toNat=2) (dep:Int):
  Calls Tryz.prog 94 #[.pointer (some ⟨R,0,none⟩),.int .i64 dep] w (RVal d bs at_ R w):=by
 have HDV:Hid (decV d (bs.drop at_)=decText (bs.drop (at_+1))):=by unfold Hid;rw [List.drop_eq_getElem_cons hlt,hc,decV_2 _ _ _ hx]
 have H0:=Lib.hid (rv0_of hr)
 have hRl:=hr.lt
 have hnx:=next_some R bs at_ false _ H0.out.rr hlt
 rw [hc,hx] at hnx
 have hne:¬ w.heap.size=R:=by omega
 have HNX:=Lib.hid hnx
 clear hr hc hx hnx
 go_enter Tryz.func94,Tryz.ntmps94
 go_wp2_with fail
 refine (HNX.out).mono ?_
 rintro e w1 ⟨rfl,hr1,hg1⟩
 have h1:=H0.out.step hr1 hg1
 have H1:=Lib.hid h1
 clear h1 hr1 hg1 H0 HNX
 go_wp2_with fail
 refine (rnumber_any bs (at_+1) R w1 H1.out.rr).mono ?_
 rintro e w2 ⟨hg2,⟨u,r,at',hd,rfl,hr2,hrest⟩|⟨hd,rfl,at',hr2⟩⟩
 ·have h2:=H1.out.step hr2 hg2
  obtain ⟨x0,x1,x2,x3⟩:=h2.box.cells
  obtain ⟨f0,f1,f2,f3⟩:=h2.box.free
  obtain ⟨a1,cap1,y0,y1,y2,fy1,fy2,hal,hbl⟩:=h2.rr.cells
  have H2:=Lib.hid h2
  have hu:=(decNum_lt hd).1
  have hrl:r.length=bs.length - at':=by rw [← hrest,List.length_drop]
  have kw1:IntKind.i64.wrap ((bs.length:Int) - at')=bs.length - at':=IntWalk.i64_in _ (by omega)
  have kw2:IntKind.u64.wrap ((bs.length:Int) - at')=bs.length - at':=by
   have:=wrapU (bs.length - at') (by omega)
   rw [show ((bs.length - at':Nat):Int)=(bs.length:Int) - at' by omega] at this
   exact this
  by_cases hle:u≤r.length
  ·have HDD:=Lib.hid (decText_ok hd hle)
   have hdc:decide ((bs.length:Int) - at' < u)=false:=by simp;omega
   have HRS:=Lib.hid hrest
   have HLE:=Lib.hid hle
   have HRL:=Lib.hid hrl
   have hul:(u:Int)≤bs.length - at':=by omega
   clear h2 hr2 hg2 hd hrest hle hrl hu
   go_wp2_with fail
   go_quiet (fail)
   go_wp2
   have h3:=(H2.out.drewN nq).setAt (at'+u) (by omega)
   rw [show ((at'+u:Nat):Int)=(at':Int)+u by omega] at h3
   have H3:=Lib.hid h3
   clear x0 x1 x2 x3 f0 f1 f2 f3 y0 y1 y2 fy1 fy2
   generalize (w2.drewN nq).setCell ⟨R,1,none⟩ (.int .i64 ((at':Int)+u))=W3 at *
   obtain ⟨x0,x1,x2,x3⟩:=h3.box.cells
   obtain ⟨f0,f1,f2,f3⟩:=h3.box.free
   obtain ⟨a1,cap1,y0,y1,y2,fy1,fy2,hal,hbl⟩:=h3.rr.cells
   rw [show ((at'+u:Nat):Int)=(at':Int)+u by omega] at y1
   obtain ⟨hby,hcap⟩:=h3.rr.bytes y0
   have hln:((bs.drop at').take u).length=u:=by rw [List.length_take,List.length_drop];omega
   have hcv:=((hby.drop hcap at').take u).conv (cap1 - at')
   have h5:=H3.out.res (.int .i64 2) (.int .i64 0) (.string ⟨((bs.drop at').take u).toArray⟩) (.slice none 0 0)
   have h5y:(((((W3.setCell ⟨w.heap.size,0,none⟩ (.int .i64 2)).setCell ⟨w.heap.size,1,none⟩ (.int .i64 0)).setCell ⟨w.heap.size,2,none⟩ (.string ⟨((bs.drop at').take u).toArray⟩)).setCell ⟨w.heap.size,3,none⟩ (.slice none 0 0))).cell? ⟨R,0,none⟩=some (.slice a1 bs.length cap1):=by
    rw [World.cell?_of_block (w:=W3) (a:=⟨R,0,none⟩) (by show (World.setCell _ _ _).heap[R]? =_;rw [setCell_other _ _ _ _ _ (by omega),setCell_other _ _ _ _ _ (by omega),setCell_other _ _ _ _ _ (by omega),setCell_other _ _ _ _ _ (by omega)])]
    exact y0
   obtain ⟨hby5,_⟩:=h5.rr.bytes h5y
   have hcv5:=((hby5.drop hcap at').take u).conv (cap1 - at')
   obtain ⟨_,_,_,h5y1,_⟩:=h5.rr.cells
   rw [show ((at'+u:Nat):Int)=(at':Int)+u by omega] at h5y1
   rw [hln] at hcv hcv5
   have hsl:=slice_lh a1 bs.length cap1 at' u (by omega)
   have kwa:IntKind.i64.wrap (u:Int)=u:=IntWalk.i64_in _ (by omega)
   have kwb:IntKind.i64.wrap ((at':Int)+u - u)=at':=by rw [IntWalk.i64_in _ (by omega)];omega
   have kwc:IntKind.i64.wrap (at':Int)=at':=IntWalk.i64_in _ (by omega)
   have HLN:=Lib.hid hln
   have H5:=Lib.hid h5
   have HK1:Hid (W3.drew.cell? ⟨R,0,none⟩=some (.slice a1 bs.length cap1)∧W3.drew.cell? ⟨R,1,none⟩=some (.int .i64 ((at':Int)+u))∧(convert 50 9 (.slice (cutA a1 cap1 at') u (cap1 - at'))).run Tryz.prog W3.drew= .ok (.string ⟨((bs.drop at').take u).toArray⟩) W3.drew):=⟨y0,y1,by have:=((hby.drop hcap at').take u).conv (w:=W3.drew) (cap1 - at');rw [HLN.out] at this;exact this⟩
   have HK2:Hid (((((W3.setCell ⟨w.heap.size,0,none⟩ (.int .i64 2)).setCell ⟨w.heap.size,1,none⟩ (.int .i64 0)).setCell ⟨w.heap.size,2,none⟩ (.string ⟨((bs.drop at').take u).toArray⟩)).setCell ⟨w.heap.size,3,none⟩ (.slice none 0 0)).drew.cell? ⟨R,0,none⟩=some (.slice a1 bs.length cap1)∧((((W3.setCell ⟨w.heap.size,0,none⟩ (.int .i64 2)).setCell ⟨w.heap.size,1,none⟩ (.int .i64 0)).setCell ⟨w.heap.size,2,none⟩ (.string ⟨((bs.drop at').take u).toArray⟩)).setCell ⟨w.heap.size,3,none⟩ (.slice none 0 0)).drew.cell? ⟨R,1,none⟩=some (.int .i64 ((at':Int)+u))∧(convert 50 9 (.slice (cutA a1 cap1 at') u (cap1 - at'))).run Tryz.prog ((((W3.setCell ⟨w.heap.size,0,none⟩ (.int .i64 2)).setCell ⟨w.heap.size,1,none⟩ (.int .i64 0)).setCell ⟨w.heap.size,2,none⟩ (.string ⟨((bs.drop at').take u).toArray⟩)).setCell ⟨w.heap.size,3,none⟩ (.slice none 0 0)).drew= .ok (.string ⟨((bs.drop at').take u).toArray⟩) ((((W3.setCell ⟨w.heap.size,0,none⟩ (.int .i64 2)).setCell ⟨w.heap.size,1,none⟩ (.int .i64 0)).setCell ⟨w.heap.size,2,none⟩ (.string ⟨((bs.drop at').take u).toArray⟩)).setCell ⟨w.heap.size,3,none⟩ (.slice none 0 0)).drew):=⟨h5y,h5y1,by have:=((hby5.drop hcap at').take u).conv (w:=((((W3.setCell ⟨w.heap.size,0,none⟩ (.int .i64 2)).setCell ⟨w.heap.size,1,none⟩ (.int .i64 0)).setCell ⟨w.heap.size,2,none⟩ (.string ⟨((bs.drop at').take u).toArray⟩)).setCell ⟨w.heap.size,3,none⟩ (.slice none 0 0)).drew) (cap1 - at');rw [HLN.out] at this;exact this⟩
   clear h3 hby hln h5 hby5 hcv5 h5y h5y1
   go_region_held3 (fun w'=>w'.cell? ⟨R,0,none⟩=some (.slice a1 bs.length cap1)∧w'.cell? ⟨R,1,none⟩=some (.int .i64 ((at':Int)+u))∧(convert 50 9 (.slice (cutA a1 cap1 at') u (cap1 - at'))).run Tryz.prog w'= .ok (.string ⟨((bs.drop at').take u).toArray⟩) w')
    (first
     |exact HK1.out
     |exact HK2.out
     |go_keep)
    (fail)
   have h6:=H5.out
   clear H5 HK1 HK2 hcv
   generalize ((((W3.setCell ⟨w.heap.size,0,none⟩ (.int .i64 2)).setCell ⟨w.heap.size,1,none⟩ (.int .i64 0)).setCell ⟨w.heap.size,2,none⟩ (.string ⟨((bs.drop at').take u).toArray⟩)).setCell ⟨w.heap.size,3,none⟩ (.slice none 0 0))=W5 at *
   go_wp2
   refine bodyPost_ret (v:= .agg #[.int .i64 2,.int .i64 0,.string ⟨((bs.drop at').take u).toArray⟩,.slice none 0 0]) (by simp only [results,Tryz.results94];simp [go_sem,h6.c0,h6.c1,h6.c2,h6.c3]) rfl ?_
   refine RVal.drew (h6.good (r:=r.drop u) ?_ ?_ (by unfold i64R;omega) (by unfold i64R;omega) (by have:=HLN.out;omega))
   ·rw [HDV.out,HDD.out,HRS.out]
   ·rw [← HRS.out,List.drop_drop]
  ·have HDN:Hid (decV d (bs.drop at_)=none):=by unfold Hid;rw [HDV.out,decText_long hd hle]
   have hdc:decide ((bs.length:Int) - at' < u)=true:=by simp;omega
   clear h2 hr2 hg2 hd hrest hle hrl hu
   go_wp2_with fail
   go_quiet (fail)
   go_wp2
   have h5:=(H2.out.drewN nq).toBad.res (.int .i64 0) (.int .i64 0) (.string ⟨#[]⟩) (.slice none 0 0)
   generalize ((((((w2.drewN nq).setCell ⟨R,2,none⟩ (.bool true))).setCell ⟨w.heap.size,0,none⟩ (.int .i64 0)).setCell ⟨w.heap.size,1,none⟩ (.int .i64 0)).setCell ⟨w.heap.size,2,none⟩ (.string ⟨#[]⟩)).setCell ⟨w.heap.size,3,none⟩ (.slice none 0 0)=W5 at *
   exact bodyPost_ret (v:= .agg #[.int .i64 0,.int .i64 0,.string ⟨#[]⟩,.slice none 0 0]) (by simp only [results,Tryz.results94];simp [go_sem,h5.c0,h5.c1,h5.c2,h5.c3]) rfl (h5.bad HDN.out)
 ·have h2:=H1.out.step hr2 hg2
  obtain ⟨x0,x1,x2,x3⟩:=h2.box.cells
  obtain ⟨f0,f1,f2,f3⟩:=h2.box.free
  obtain ⟨a1,cap1,y0,y1,y2,fy1,fy2,hal,hbl⟩:=h2.rr.cells
  have H2:=Lib.hid h2
  have HDN:Hid (decV d (bs.drop at_)=none):=by unfold Hid;rw [HDV.out,decText_no hd]
  clear h2 hr2 hg2 hd
  go_wp2_with fail
  go_quiet (fail)
  go_wp2
  have h5:=(H2.out.drewN nq).toBad.res (.int .i64 0) (.int .i64 0) (.string ⟨#[]⟩) (.slice none 0 0)
  generalize ((((((w2.drewN nq).setCell ⟨R,2,none⟩ (.bool true))).setCell ⟨w.heap.size,0,none⟩ (.int .i64 0)).setCell ⟨w.heap.size,1,none⟩ (.int .i64 0)).setCell ⟨w.heap.size,2,none⟩ (.string ⟨#[]⟩)).setCell ⟨w.heap.size,3,none⟩ (.slice none 0 0)=W5 at *
  exact bodyPost_ret (v:= .agg #[.int .i64 0,.int .i64 0,.string ⟨#[]⟩,.slice none 0 0]) (by simp only [results,Tryz.results94];simp [go_sem,h5.c0,h5.c1,h5.c2,h5.c3]) rfl (h5.bad HDN.out)
end Go.Proofs.YthidfoohhhkobaaGreat.Cd
