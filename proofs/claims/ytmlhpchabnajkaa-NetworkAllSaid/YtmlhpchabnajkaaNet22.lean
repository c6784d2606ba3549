/- happens -/
import Derived.Test.YtmlhpchabnajkaaNetD
import Derived.Test.YtmlhpchabnajkaaNetHap
namespace Go.Proofs.Ytmlhpchabnajkaa
set_option linter.unusedSimpArgs false
set_option linter.unusedVariables false
open Go.RowKit
attribute [local go_sem ↓] Go.wp_at_zero Go.wp_at_succ
def HapRet (F : Nat → Prop) (m : NetM) (p : Pkt) (err : Int) (w : World) (e : Ending) (w' : World) : Prop :=
  ∃ qa qc aa ac da dc, e = .returned (.tuple #[.agg #[.slice qa m.queue.length qc, .slice aa m.apart.length ac], .agg #[.int .i64 p.src, .int .i64 p.dst, .slice da p.data.length dc], .int .i64 err]) ∧
    RNet (Fr F w w') w' m [.slice qa m.queue.length qc, .slice aa m.apart.length ac] ∧ RPk (Fr F w w') w' p [.int .i64 p.src, .int .i64 p.dst, .slice da p.data.length dc] ∧ Below w.heap.size w w'
theorem rpk_one {F : Nat → Prop} {W : World} {g : Nat} {a b : Int} {x : UInt8} {v : Value} (hv : v = .int .u8 x.toNat) (ha : i64R a) (hb : i64R b) (hg : Box W g #[v] 5) (hF : F g) : RPk F W ⟨a, b, [x]⟩ [.int .i64 a, .int .i64 b, .slice (some ⟨g, 0, none⟩) 1 1] := by
  subst hv
  refine ⟨some ⟨g, 0, none⟩, 1, rfl, ha, hb, Nat.le_refl _, by simp, fun i hi => ?_⟩
  have : i = 0 := by simp at hi; omega
  subst this
  exact ⟨g, 0, [.int .u8 x.toNat], rfl, hF, rfl, fun j u hu => by
    cases j with
    | zero => cases hu; exact hg.cell 0 rfl
    | succ j => simp at hu⟩
set_option maxRecDepth 100000 in
set_option maxHeartbeats 9000000 in
theorem happens_any (n : NetM) (m : Mv) (qa : Option Addr) (qc : Nat) (aa : Option Addr) (ac : Nat) (w : World) (F : Nat → Prop) (hF : ∀ b, F b → b < w.heap.size) (hr : RNet F w n [.slice qa n.queue.length qc, .slice aa n.apart.length ac]) :
    Calls Try.prog 27 #[.agg #[.slice qa n.queue.length qc, .slice aa n.apart.length ac], .agg #[byteV m.kind, byteV m.at_, byteV m.a, byteV m.b, byteV m.data]] w (HapRet F (hapN n m) (hapP n m) (hapE n m) w) := by
  have HFL := Lib.hid hF
  have HR := Lib.hid hr
  clear hF hr
  have hl : n.queue.length ≤ 140737488351232 := by obtain ⟨_, _, _, _, e, _, h, _⟩ := HR.out; cases e; exact h
  unfold byteV
  obtain ⟨kd, hkd⟩ : ∃ x : Nat, x = m.kind.toNat := ⟨_, rfl⟩
  obtain ⟨mt, hmt⟩ : ∃ x : Nat, x = m.at_.toNat := ⟨_, rfl⟩
  obtain ⟨ma, hma⟩ : ∃ x : Nat, x = m.a.toNat := ⟨_, rfl⟩
  obtain ⟨mb, hmb⟩ : ∃ x : Nat, x = m.b.toNat := ⟨_, rfl⟩
  obtain ⟨md, hmd⟩ : ∃ x : Nat, x = m.data.toNat := ⟨_, rfl⟩
  have lkd : kd < 256 := hkd ▸ UInt8.toNat_lt _
  have lmt : mt < 256 := hmt ▸ UInt8.toNat_lt _
  have lma : ma < 256 := hma ▸ UInt8.toNat_lt _
  have lmb : mb < 256 := hmb ▸ UInt8.toNat_lt _
  rw [← hkd, ← hmt, ← hma, ← hmb, ← hmd]
  have HA : Hid ((ma : Int) % 24 = hapA m) := by unfold hapA Hid; rw [hma]; omega
  have HB : Hid ((mb : Int) % 24 = hapB m) := by unfold hapB Hid; rw [hmb]; omega
  have HMD : Hid (Value.int .u8 (md : Int) = .int .u8 (m.data.toNat : Int)) := by unfold Hid; rw [hmd]
  have HK : Hid (kd % 6 = hapK m) := by unfold hapK Hid; rw [hkd]
  have hsix : (kd : Int) % 6 = 0 ∨ (kd : Int) % 6 = 1 ∨ (kd : Int) % 6 = 2 ∨ (kd : Int) % 6 = 3 ∨ (kd : Int) % 6 = 4 ∨ (kd : Int) % 6 = 5 := by omega
  have HSX := Lib.hid hsix
  obtain ⟨tt, htt⟩ : ∃ x : Int, x = hapAt n m := ⟨_, rfl⟩
  have HT := Lib.hid htt
  have HT1 : Hid (0 < n.queue.length → (mt : Int) % (n.queue.length : Int) = tt) := fun h => by rw [htt]; unfold hapAt; rw [if_pos h, ← hmt]; omega
  have HT2 : Hid (¬ 0 < n.queue.length → 0 = tt) := fun h => by rw [htt]; unfold hapAt; rw [if_neg h]
  clear hkd hmt hma hmb hmd hsix htt
  go_enter Try.func27, Try.ntmps27
  go_upto_region 2 with (fail)
  refine wp_name ?_
  intro W1 hW1
  have HV1 : Hid (Step [w.heap.size + 1 + 1, w.heap.size + 1 + 1 + 1] w W1) := by
    rw [hW1]
    refine Lib.hid ?_
    repeat (first | (with_reducible exact (Step.refl [w.heap.size + 1 + 1, w.heap.size + 1 + 1 + 1] w)) | (with_reducible refine Step.drew ?_) | (with_reducible refine Step.drewN ?_ _) | (with_reducible refine Step.alloc ?_ _) | ((with_reducible apply Step.setE); focus (first | (left; simp; done) | (right; simp; done) | (right; simp; omega) | (right; dsimp only; omega) | (right; omega))))
  have HS1 : Hid (Step [w.heap.size + 1 + 1, w.heap.size + 1 + 1 + 1] w W1) := Lib.hid HV1.out
  have HBN : Hid (Box W1 (w.heap.size) #[.slice qa n.queue.length qc, .slice aa n.apart.length ac] 25) := by
    rw [hW1]
    refine Lib.hid ?_
    repeat (first | (with_reducible exact Box.newE _ _ _ _ (by first | rfl | (simp; done))) | (with_reducible refine Box.drew ?_) | (with_reducible refine Box.drewN ?_ _) | (with_reducible refine Box.alloc ?_ _) | (with_reducible apply Box.setE) | ((with_reducible apply Box.otherE); first | (exact (by omega)) | (exact (by simp)) | (exact (by simp; omega))) | (exact (rfl : Array.setIfInBounds _ _ _ = _)))
  have HBM : Hid (Box W1 (w.heap.size + 1) #[.int .u8 (kd : Int), .int .u8 (mt : Int), .int .u8 (ma : Int), .int .u8 (mb : Int), .int .u8 (md : Int)] 52) := by
    rw [hW1]
    refine Lib.hid ?_
    repeat (first | (with_reducible exact Box.newE _ _ _ _ (by first | rfl | (simp; done))) | (with_reducible refine Box.drew ?_) | (with_reducible refine Box.drewN ?_ _) | (with_reducible refine Box.alloc ?_ _) | (with_reducible apply Box.setE) | ((with_reducible apply Box.otherE); first | (exact (by omega)) | (exact (by simp)) | (exact (by simp; omega))) | (exact (rfl : Array.setIfInBounds _ _ _ = _)))
  have HBX : Hid (Box W1 (w.heap.size + 1 + 1) #[.slice none 0 0, .slice none 0 0] 25) := by
    rw [hW1]
    refine Lib.hid ?_
    repeat (first | (with_reducible exact Box.newE _ _ _ _ (by first | rfl | (simp; done))) | (with_reducible refine Box.drew ?_) | (with_reducible refine Box.drewN ?_ _) | (with_reducible refine Box.alloc ?_ _) | (with_reducible apply Box.setE) | ((with_reducible apply Box.otherE); first | (exact (by omega)) | (exact (by simp)) | (exact (by simp; omega))) | (exact (rfl : Array.setIfInBounds _ _ _ = _)))
  have HBY : Hid (Box W1 (w.heap.size + 1 + 1 + 1) #[.int .i64 0, .int .i64 0, .slice none 0 0] 28) := by
    rw [hW1]
    refine Lib.hid ?_
    repeat (first | (with_reducible exact Box.newE _ _ _ _ (by first | rfl | (simp; done))) | (with_reducible refine Box.drew ?_) | (with_reducible refine Box.drewN ?_ _) | (with_reducible refine Box.alloc ?_ _) | (with_reducible apply Box.setE) | ((with_reducible apply Box.otherE); first | (exact (by omega)) | (exact (by simp)) | (exact (by simp; omega))) | (exact (rfl : Array.setIfInBounds _ _ _ = _)))
  clear hW1
  have HSS : Hid (∀ b ∈ [w.heap.size + 1 + 1, w.heap.size + 1 + 1 + 1], w.heap.size ≤ b) := by intro b hb; simp at hb; omega
  have HSL : Hid (∀ b ∈ [w.heap.size + 1 + 1, w.heap.size + 1 + 1 + 1], b < W1.heap.size) := by intro b hb; have hX := HBX.out.lt; have hY := HBY.out.lt; simp at hb; omega
  have DN : Hid (RNet (Dom (fun b => F b ∨ w.heap.size ≤ b) [w.heap.size + 1 + 1, w.heap.size + 1 + 1 + 1] W1) W1 n [.slice qa n.queue.length qc, .slice aa n.apart.length ac]) := Lib.hid (good_net.enter HR.out HFL.out HS1.out HSS.out)
  have qN_0 := HBN.out.cell 0 rfl
  have qN_1 := HBN.out.cell 1 rfl
  have qM_0 := HBM.out.cell 0 rfl
  have qM_1 := HBM.out.cell 1 rfl
  have qM_2 := HBM.out.cell 2 rfl
  have qM_3 := HBM.out.cell 3 rfl
  have qM_4 := HBM.out.cell 4 rfl
  have hk6 := HSX.out
  by_cases h0 : 0 < n.queue.length
  · have hq : (mt : Int) % (n.queue.length : Int) = tt := HT1.out h0
    have h0' : (n.queue.length : Int) ≠ 0 := by omega
    have wq0 : 0 ≤ tt := by rw [← hq]; exact Int.emod_nonneg _ h0'
    rcases hk6 with hk6 | hk6 | hk6 | hk6 | hk6 | hk6
    · have hk : (kd : Int) % 6 = 0 := hk6
      go_upto_region 4 with (fail)
      go_quiet (fail)
      go_upto_region 7 with (fail)
      refine wp_name ?_
      intro W2 hW2
      have HV2 : Hid (Step [w.heap.size + 1 + 1, w.heap.size + 1 + 1 + 1] W1 W2) := by
        rw [hW2]
        refine Lib.hid ?_
        repeat (first | (with_reducible exact (Step.refl [w.heap.size + 1 + 1, w.heap.size + 1 + 1 + 1] W1)) | (with_reducible refine Step.drew ?_) | (with_reducible refine Step.drewN ?_ _) | (with_reducible refine Step.alloc ?_ _) | ((with_reducible apply Step.setE); focus (first | (left; simp; done) | (right; simp; done) | (right; simp; omega) | (right; dsimp only; omega) | (right; omega))))
      have HS2 : Hid (Step [w.heap.size + 1 + 1, w.heap.size + 1 + 1 + 1] W1 W2) := Lib.hid HV2.out
      replace HBX : Hid (Box W2 (w.heap.size + 1 + 1) #[.slice none 0 0, .slice none 0 0] 25) := by
        rw [hW2]
        refine Lib.hid ?_
        repeat (first | (with_reducible exact HBX.out) | (with_reducible exact Box.newE _ _ _ _ (by first | rfl | (simp; done))) | (with_reducible refine Box.drew ?_) | (with_reducible refine Box.drewN ?_ _) | (with_reducible refine Box.alloc ?_ _) | (with_reducible apply Box.setE) | ((with_reducible apply Box.otherE); first | (exact (by omega)) | (exact (by simp)) | (exact (by simp; omega))) | (exact (rfl : Array.setIfInBounds _ _ _ = _)))
      replace HBY : Hid (Box W2 (w.heap.size + 1 + 1 + 1) #[.int .i64 0, .int .i64 0, .slice none 0 0] 28) := by
        rw [hW2]
        refine Lib.hid ?_
        repeat (first | (with_reducible exact HBY.out) | (with_reducible exact Box.newE _ _ _ _ (by first | rfl | (simp; done))) | (with_reducible refine Box.drew ?_) | (with_reducible refine Box.drewN ?_ _) | (with_reducible refine Box.alloc ?_ _) | (with_reducible apply Box.setE) | ((with_reducible apply Box.otherE); first | (exact (by omega)) | (exact (by simp)) | (exact (by simp; omega))) | (exact (rfl : Array.setIfInBounds _ _ _ = _)))
      clear hW2
      clear qN_0 qN_1 qM_0 qM_1 qM_2 qM_3 qM_4
      have HK6 := Lib.hid hk6
      clear hk hk6
      obtain ⟨N3, hN3⟩ : ∃ x, x = sendN n ⟨((ma : Int) % 24), ((mb : Int) % 24), [m.data]⟩ := ⟨_, rfl⟩
      obtain ⟨E3, hE3⟩ : ∃ x, x = sendE n ⟨((ma : Int) % 24), ((mb : Int) % 24), [m.data]⟩ := ⟨_, rfl⟩
      have BD := Box.new W2 #[.int .u8 (md : Int)] 5
      have HSA : Hid (Step [w.heap.size + 1 + 1, w.heap.size + 1 + 1 + 1] W2 (W2.alloc (.cells #[.int .u8 (md : Int)] 5))) := Lib.hid ((Step.refl _ _).alloc _)
      have HLT : Hid (∀ b ∈ [w.heap.size + 1 + 1, w.heap.size + 1 + 1 + 1], b < W2.heap.size) := Lib.hid (fun b hb => Nat.lt_of_lt_of_le (HSL.out b hb) HS2.out.size)
      have HGE : Hid (w.heap.size ≤ W2.heap.size) := Lib.hid (Step.trans HS1.out HS2.out).size
      have hx := send_any n ⟨((ma : Int) % 24), ((mb : Int) % 24), [m.data]⟩ qa qc aa ac (some ⟨W2.heap.size, 0, none⟩) 1 (W2.alloc (.cells #[.int .u8 (md : Int)] 5)) (Dom (fun b => F b ∨ w.heap.size ≤ b) [w.heap.size + 1 + 1, w.heap.size + 1 + 1 + 1] (W2.alloc (.cells #[.int .u8 (md : Int)] 5))) dom_lt (good_net.step DN.out (HS2.out.trans HSA.out)) (rpk_one HMD.out (by unfold i64R; omega) (by unfold i64R; omega) BD ⟨.inr HGE.out, BD.lt, fun h => Nat.lt_irrefl _ (HLT.out _ h)⟩)
      clear BD HLT HGE
      rw [← hN3, ← hE3] at hx
      have HN3 := Lib.hid hN3
      have HE3 := Lib.hid hE3
      clear hN3 hE3
      replace HBN : Hid (Box W2 (w.heap.size) #[.slice qa n.queue.length qc, .slice aa n.apart.length ac] 25) := Lib.hid (HBN.out.step HS2.out (by (first | omega | (simp; done) | (simp; omega))))
      have qN_0 := HBN.out.cell 0 rfl
      have qN_1 := HBN.out.cell 1 rfl
      replace HBM : Hid (Box W2 (w.heap.size + 1) #[.int .u8 (kd : Int), .int .u8 (mt : Int), .int .u8 (ma : Int), .int .u8 (mb : Int), .int .u8 (md : Int)] 52) := Lib.hid (HBM.out.step HS2.out (by (first | omega | (simp; done) | (simp; omega))))
      have qM_0 := HBM.out.cell 0 rfl
      have qM_1 := HBM.out.cell 1 rfl
      have qM_2 := HBM.out.cell 2 rfl
      have qM_3 := HBM.out.cell 3 rfl
      have qM_4 := HBM.out.cell 4 rfl
      go_wp2_with fail
      refine hx.mono ?_
      rintro e v3 ⟨qa3, qc3, aa3, ac3, rfl, hn3, hb3⟩
      clear hx
      clear qN_0 qN_1 qM_0 qM_1 qM_2 qM_3 qM_4
      have HN4 := Lib.hid (good_net.back hn3 (fun b hb => .inr (Nat.le_trans ((Step.trans HS1.out HS2.out).trans HSA.out).size hb)) (fun b hb => Nat.lt_of_lt_of_le (HSL.out b hb) (HS2.out.trans HSA.out).size))
      clear hn3
      have hb4 : Below W2.heap.size W2 v3 := (below_new W2 _).trans (hb3.mono (by simp))
      have BVX := HBX.out.below hb4
      have qX_0 := BVX.cell 0 rfl
      have fX_0 := BVX.free 0
      have qX_1 := BVX.cell 1 rfl
      have fX_1 := BVX.free 1
      have BVY := HBY.out.below hb4
      have qY_0 := BVY.cell 0 rfl
      have fY_0 := BVY.free 0
      have qY_1 := BVY.cell 1 rfl
      have fY_1 := BVY.free 1
      have qY_2 := BVY.cell 2 rfl
      have fY_2 := BVY.free 2
      go_upto_region 18 with (fail)
      clear qX_0 fX_0 qX_1 fX_1 qY_0 fY_0 qY_1 fY_1 qY_2 fY_2
      refine wp_name ?_
      intro W3 hW3
      have HV3 : Hid (Step [w.heap.size + 1 + 1, w.heap.size + 1 + 1 + 1] v3 W3) := by
        rw [hW3]
        refine Lib.hid ?_
        repeat (first | (with_reducible exact (Step.refl [w.heap.size + 1 + 1, w.heap.size + 1 + 1 + 1] v3)) | (with_reducible refine Step.drew ?_) | (with_reducible refine Step.drewN ?_ _) | (with_reducible refine Step.alloc ?_ _) | ((with_reducible apply Step.setE); focus (first | (left; simp; done) | (right; simp; done) | (right; simp; omega) | (right; dsimp only; omega) | (right; omega))))
      have HS3 : Hid (Step [w.heap.size + 1 + 1, w.heap.size + 1 + 1 + 1] W2 W3) := Lib.hid ((Step.of_below hb4).trans HV3.out)
      replace HBX : Hid (Box W3 (w.heap.size + 1 + 1) #[.slice qa3 N3.queue.length qc3, .slice aa3 N3.apart.length ac3] 25) := by
        rw [hW3]
        refine Lib.hid ?_
        repeat (first | (with_reducible exact (HBX.out.below hb4)) | (with_reducible exact Box.newE _ _ _ _ (by first | rfl | (simp; done))) | (with_reducible refine Box.drew ?_) | (with_reducible refine Box.drewN ?_ _) | (with_reducible refine Box.alloc ?_ _) | (with_reducible apply Box.setE) | ((with_reducible apply Box.otherE); first | (exact (by omega)) | (exact (by simp)) | (exact (by simp; omega))) | (exact (rfl : Array.setIfInBounds _ _ _ = _)))
      replace HBY : Hid (Box W3 (w.heap.size + 1 + 1 + 1) #[.int .i64 0, .int .i64 0, .slice none 0 0] 28) := by
        rw [hW3]
        refine Lib.hid ?_
        repeat (first | (with_reducible exact (HBY.out.below hb4)) | (with_reducible exact Box.newE _ _ _ _ (by first | rfl | (simp; done))) | (with_reducible refine Box.drew ?_) | (with_reducible refine Box.drewN ?_ _) | (with_reducible refine Box.alloc ?_ _) | (with_reducible apply Box.setE) | ((with_reducible apply Box.otherE); first | (exact (by omega)) | (exact (by simp)) | (exact (by simp; omega))) | (exact (rfl : Array.setIfInBounds _ _ _ = _)))
      clear hW3
      clear hb3 BVX BVY hb4
      have DR : Hid (RNet (Dom (fun b => F b ∨ w.heap.size ≤ b) [w.heap.size + 1 + 1, w.heap.size + 1 + 1 + 1] W3) W3 N3 [.slice qa3 N3.queue.length qc3, .slice aa3 N3.apart.length ac3]) := Lib.hid (good_net.step HN4.out HV3.out)
      have qX_0 := HBX.out.cell 0 rfl
      have fX_0 := HBX.out.free 0
      have qX_1 := HBX.out.cell 1 rfl
      have fX_1 := HBX.out.free 1
      have qY_0 := HBY.out.cell 0 rfl
      have fY_0 := HBY.out.free 0
      have qY_1 := HBY.out.cell 1 rfl
      have fY_1 := HBY.out.free 1
      have qY_2 := HBY.out.cell 2 rfl
      have fY_2 := HBY.out.free 2
      go_region
      go_wp2
      refine post_name ?_
      intro W4 hW4
      have HV4 : Hid (Step [w.heap.size + 1 + 1, w.heap.size + 1 + 1 + 1] W3 W4) := by
        rw [hW4]
        refine Lib.hid ?_
        repeat (first | (with_reducible exact (Step.refl [w.heap.size + 1 + 1, w.heap.size + 1 + 1 + 1] W3)) | (with_reducible refine Step.drew ?_) | (with_reducible refine Step.drewN ?_ _) | (with_reducible refine Step.alloc ?_ _) | ((with_reducible apply Step.setE); focus (first | (left; simp; done) | (right; simp; done) | (right; simp; omega) | (right; dsimp only; omega) | (right; omega))))
      have HS4 : Hid (Step [w.heap.size + 1 + 1, w.heap.size + 1 + 1 + 1] W3 W4) := Lib.hid HV4.out
      replace HBX : Hid (Box W4 (w.heap.size + 1 + 1) #[.slice qa3 N3.queue.length qc3, .slice aa3 N3.apart.length ac3] 25) := by
        rw [hW4]
        refine Lib.hid ?_
        repeat (first | (with_reducible exact HBX.out) | (with_reducible exact Box.newE _ _ _ _ (by first | rfl | (simp; done))) | (with_reducible refine Box.drew ?_) | (with_reducible refine Box.drewN ?_ _) | (with_reducible refine Box.alloc ?_ _) | (with_reducible apply Box.setE) | ((with_reducible apply Box.otherE); first | (exact (by omega)) | (exact (by simp)) | (exact (by simp; omega))) | (exact (rfl : Array.setIfInBounds _ _ _ = _)))
      replace HBY : Hid (Box W4 (w.heap.size + 1 + 1 + 1) #[.int .i64 0, .int .i64 0, .slice none 0 0] 28) := by
        rw [hW4]
        refine Lib.hid ?_
        repeat (first | (with_reducible exact HBY.out) | (with_reducible exact Box.newE _ _ _ _ (by first | rfl | (simp; done))) | (with_reducible refine Box.drew ?_) | (with_reducible refine Box.drewN ?_ _) | (with_reducible refine Box.alloc ?_ _) | (with_reducible apply Box.setE) | ((with_reducible apply Box.otherE); first | (exact (by omega)) | (exact (by simp)) | (exact (by simp; omega))) | (exact (rfl : Array.setIfInBounds _ _ _ = _)))
      clear hW4
      clear qX_0 fX_0 qX_1 fX_1 qY_0 fY_0 qY_1 fY_1 qY_2 fY_2
      have hKk : hapK m = 0 := by have h1 := HK.out; have h2 := HK6.out; omega
      have e1 : hapN n m = N3 := by rw [HN3.out]; unfold hapN hapQ; rw [hKk]; simp only []; rw [← HA.out, ← HB.out]
      have e2 : hapE n m = E3 := by rw [HE3.out]; unfold hapE hapQ; rw [hKk]; simp only []; rw [← HA.out, ← HB.out]
      have e3 : hapP n m = .nil := by unfold hapP; rw [hKk]; rfl
      rw [e1, e2, e3]
      have BX := HBX.out
      have BY := HBY.out
      exact bodyPost_ret (v := .tuple #[.agg #[.slice qa3 N3.queue.length qc3, .slice aa3 N3.apart.length ac3], .agg #[.int .i64 0, .int .i64 0, .slice none 0 0], .int .i64 E3]) (by simp [results, Try.results27, go_sem, BX.cell 0 rfl, BX.cell 1 rfl, BY.cell 0 rfl, BY.cell 1 rfl, BY.cell 2 rfl]) rfl ⟨qa3, qc3, aa3, ac3, none, 0, rfl, good_net.leave (good_net.step DR.out HS4.out) (Step.refl _ _), rpk_nil _ _, Step.to_below (Step.trans (Step.trans (Step.trans HS1.out HS2.out) HS3.out) HS4.out) HSS.out⟩
    · have hk : (kd : Int) % 6 = 1 := hk6
      go_upto_region 4 with (fail)
      go_quiet (fail)
      go_upto_region 9 with (fail)
      refine wp_name ?_
      intro W2 hW2
      have HV2 : Hid (Step [w.heap.size + 1 + 1, w.heap.size + 1 + 1 + 1] W1 W2) := by
        rw [hW2]
        refine Lib.hid ?_
        repeat (first | (with_reducible exact (Step.refl [w.heap.size + 1 + 1, w.heap.size + 1 + 1 + 1] W1)) | (with_reducible refine Step.drew ?_) | (with_reducible refine Step.drewN ?_ _) | (with_reducible refine Step.alloc ?_ _) | ((with_reducible apply Step.setE); focus (first | (left; simp; done) | (right; simp; done) | (right; simp; omega) | (right; dsimp only; omega) | (right; omega))))
      have HS2 : Hid (Step [w.heap.size + 1 + 1, w.heap.size + 1 + 1 + 1] W1 W2) := Lib.hid HV2.out
      replace HBX : Hid (Box W2 (w.heap.size + 1 + 1) #[.slice none 0 0, .slice none 0 0] 25) := by
        rw [hW2]
        refine Lib.hid ?_
        repeat (first | (with_reducible exact HBX.out) | (with_reducible exact Box.newE _ _ _ _ (by first | rfl | (simp; done))) | (with_reducible refine Box.drew ?_) | (with_reducible refine Box.drewN ?_ _) | (with_reducible refine Box.alloc ?_ _) | (with_reducible apply Box.setE) | ((with_reducible apply Box.otherE); first | (exact (by omega)) | (exact (by simp)) | (exact (by simp; omega))) | (exact (rfl : Array.setIfInBounds _ _ _ = _)))
      replace HBY : Hid (Box W2 (w.heap.size + 1 + 1 + 1) #[.int .i64 0, .int .i64 0, .slice none 0 0] 28) := by
        rw [hW2]
        refine Lib.hid ?_
        repeat (first | (with_reducible exact HBY.out) | (with_reducible exact Box.newE _ _ _ _ (by first | rfl | (simp; done))) | (with_reducible refine Box.drew ?_) | (with_reducible refine Box.drewN ?_ _) | (with_reducible refine Box.alloc ?_ _) | (with_reducible apply Box.setE) | ((with_reducible apply Box.otherE); first | (exact (by omega)) | (exact (by simp)) | (exact (by simp; omega))) | (exact (rfl : Array.setIfInBounds _ _ _ = _)))
      clear hW2
      clear qN_0 qN_1 qM_0 qM_1 qM_2 qM_3 qM_4
      have HK6 := Lib.hid hk6
      clear hk hk6
      obtain ⟨N3, hN3⟩ : ∃ x, x = loseN n tt := ⟨_, rfl⟩
      obtain ⟨E3, hE3⟩ : ∃ x, x = askE n tt := ⟨_, rfl⟩
      obtain ⟨P3, hP3⟩ : ∃ x, x = delP n tt := ⟨_, rfl⟩
      have hx := deliver_any n tt qa qc aa ac W2 (Dom (fun b => F b ∨ w.heap.size ≤ b) [w.heap.size + 1 + 1, w.heap.size + 1 + 1 + 1] W2) dom_lt (good_net.step DN.out HS2.out)
      rw [← hN3, ← hE3, ← hP3] at hx
      have HN3 := Lib.hid hN3
      have HE3 := Lib.hid hE3
      clear hN3 hE3
      have HP3 := Lib.hid hP3
      clear hP3
      replace HBN : Hid (Box W2 (w.heap.size) #[.slice qa n.queue.length qc, .slice aa n.apart.length ac] 25) := Lib.hid (HBN.out.step HS2.out (by (first | omega | (simp; done) | (simp; omega))))
      have qN_0 := HBN.out.cell 0 rfl
      have qN_1 := HBN.out.cell 1 rfl
      replace HBM : Hid (Box W2 (w.heap.size + 1) #[.int .u8 (kd : Int), .int .u8 (mt : Int), .int .u8 (ma : Int), .int .u8 (mb : Int), .int .u8 (md : Int)] 52) := Lib.hid (HBM.out.step HS2.out (by (first | omega | (simp; done) | (simp; omega))))
      have qM_0 := HBM.out.cell 0 rfl
      have qM_1 := HBM.out.cell 1 rfl
      have qM_2 := HBM.out.cell 2 rfl
      have qM_3 := HBM.out.cell 3 rfl
      have qM_4 := HBM.out.cell 4 rfl
      go_wp2_with fail
      refine hx.mono ?_
      rintro e v3 ⟨da3, dc3, qa3, qc3, aa3, ac3, rfl, hp3, hn3, hb3⟩
      clear hx
      clear qN_0 qN_1 qM_0 qM_1 qM_2 qM_3 qM_4
      have HN4 := Lib.hid (good_net.back hn3 (fun b hb => .inr (Nat.le_trans (Step.trans HS1.out HS2.out).size hb)) (fun b hb => Nat.lt_of_lt_of_le (HSL.out b hb) HS2.out.size))
      clear hn3
      have HP4 := Lib.hid (good_pk.back hp3 (fun b hb => .inr (Nat.le_trans (Step.trans HS1.out HS2.out).size hb)) (fun b hb => Nat.lt_of_lt_of_le (HSL.out b hb) HS2.out.size))
      clear hp3
      have BVX := HBX.out.below hb3
      have qX_0 := BVX.cell 0 rfl
      have fX_0 := BVX.free 0
      have qX_1 := BVX.cell 1 rfl
      have fX_1 := BVX.free 1
      have BVY := HBY.out.below hb3
      have qY_0 := BVY.cell 0 rfl
      have fY_0 := BVY.free 0
      have qY_1 := BVY.cell 1 rfl
      have fY_1 := BVY.free 1
      have qY_2 := BVY.cell 2 rfl
      have fY_2 := BVY.free 2
      go_upto_region 18 with (fail)
      clear qX_0 fX_0 qX_1 fX_1 qY_0 fY_0 qY_1 fY_1 qY_2 fY_2
      refine wp_name ?_
      intro W3 hW3
      have HV3 : Hid (Step [w.heap.size + 1 + 1, w.heap.size + 1 + 1 + 1] v3 W3) := by
        rw [hW3]
        refine Lib.hid ?_
        repeat (first | (with_reducible exact (Step.refl [w.heap.size + 1 + 1, w.heap.size + 1 + 1 + 1] v3)) | (with_reducible refine Step.drew ?_) | (with_reducible refine Step.drewN ?_ _) | (with_reducible refine Step.alloc ?_ _) | ((with_reducible apply Step.setE); focus (first | (left; simp; done) | (right; simp; done) | (right; simp; omega) | (right; dsimp only; omega) | (right; omega))))
      have HS3 : Hid (Step [w.heap.size + 1 + 1, w.heap.size + 1 + 1 + 1] W2 W3) := Lib.hid ((Step.of_below hb3).trans HV3.out)
      replace HBX : Hid (Box W3 (w.heap.size + 1 + 1) #[.slice qa3 N3.queue.length qc3, .slice aa3 N3.apart.length ac3] 25) := by
        rw [hW3]
        refine Lib.hid ?_
        repeat (first | (with_reducible exact (HBX.out.below hb3)) | (with_reducible exact Box.newE _ _ _ _ (by first | rfl | (simp; done))) | (with_reducible refine Box.drew ?_) | (with_reducible refine Box.drewN ?_ _) | (with_reducible refine Box.alloc ?_ _) | (with_reducible apply Box.setE) | ((with_reducible apply Box.otherE); first | (exact (by omega)) | (exact (by simp)) | (exact (by simp; omega))) | (exact (rfl : Array.setIfInBounds _ _ _ = _)))
      replace HBY : Hid (Box W3 (w.heap.size + 1 + 1 + 1) #[.int .i64 P3.src, .int .i64 P3.dst, .slice da3 P3.data.length dc3] 28) := by
        rw [hW3]
        refine Lib.hid ?_
        repeat (first | (with_reducible exact (HBY.out.below hb3)) | (with_reducible exact Box.newE _ _ _ _ (by first | rfl | (simp; done))) | (with_reducible refine Box.drew ?_) | (with_reducible refine Box.drewN ?_ _) | (with_reducible refine Box.alloc ?_ _) | (with_reducible apply Box.setE) | ((with_reducible apply Box.otherE); first | (exact (by omega)) | (exact (by simp)) | (exact (by simp; omega))) | (exact (rfl : Array.setIfInBounds _ _ _ = _)))
      clear hW3
      clear hb3 BVX BVY
      have DR : Hid (RNet (Dom (fun b => F b ∨ w.heap.size ≤ b) [w.heap.size + 1 + 1, w.heap.size + 1 + 1 + 1] W3) W3 N3 [.slice qa3 N3.queue.length qc3, .slice aa3 N3.apart.length ac3]) := Lib.hid (good_net.step HN4.out HV3.out)
      have DQ : Hid (RPk (Dom (fun b => F b ∨ w.heap.size ≤ b) [w.heap.size + 1 + 1, w.heap.size + 1 + 1 + 1] W3) W3 P3 [.int .i64 P3.src, .int .i64 P3.dst, .slice da3 P3.data.length dc3]) := Lib.hid (good_pk.step HP4.out HV3.out)
      have qX_0 := HBX.out.cell 0 rfl
      have fX_0 := HBX.out.free 0
      have qX_1 := HBX.out.cell 1 rfl
      have fX_1 := HBX.out.free 1
      have qY_0 := HBY.out.cell 0 rfl
      have fY_0 := HBY.out.free 0
      have qY_1 := HBY.out.cell 1 rfl
      have fY_1 := HBY.out.free 1
      have qY_2 := HBY.out.cell 2 rfl
      have fY_2 := HBY.out.free 2
      go_region
      go_wp2
      refine post_name ?_
      intro W4 hW4
      have HV4 : Hid (Step [w.heap.size + 1 + 1, w.heap.size + 1 + 1 + 1] W3 W4) := by
        rw [hW4]
        refine Lib.hid ?_
        repeat (first | (with_reducible exact (Step.refl [w.heap.size + 1 + 1, w.heap.size + 1 + 1 + 1] W3)) | (with_reducible refine Step.drew ?_) | (with_reducible refine Step.drewN ?_ _) | (with_reducible refine Step.alloc ?_ _) | ((with_reducible apply Step.setE); focus (first | (left; simp; done) | (right; simp; done) | (right; simp; omega) | (right; dsimp only; omega) | (right; omega))))
      have HS4 : Hid (Step [w.heap.size + 1 + 1, w.heap.size + 1 + 1 + 1] W3 W4) := Lib.hid HV4.out
      replace HBX : Hid (Box W4 (w.heap.size + 1 + 1) #[.slice qa3 N3.queue.length qc3, .slice aa3 N3.apart.length ac3] 25) := by
        rw [hW4]
        refine Lib.hid ?_
        repeat (first | (with_reducible exact HBX.out) | (with_reducible exact Box.newE _ _ _ _ (by first | rfl | (simp; done))) | (with_reducible refine Box.drew ?_) | (with_reducible refine Box.drewN ?_ _) | (with_reducible refine Box.alloc ?_ _) | (with_reducible apply Box.setE) | ((with_reducible apply Box.otherE); first | (exact (by omega)) | (exact (by simp)) | (exact (by simp; omega))) | (exact (rfl : Array.setIfInBounds _ _ _ = _)))
      replace HBY : Hid (Box W4 (w.heap.size + 1 + 1 + 1) #[.int .i64 P3.src, .int .i64 P3.dst, .slice da3 P3.data.length dc3] 28) := by
        rw [hW4]
        refine Lib.hid ?_
        repeat (first | (with_reducible exact HBY.out) | (with_reducible exact Box.newE _ _ _ _ (by first | rfl | (simp; done))) | (with_reducible refine Box.drew ?_) | (with_reducible refine Box.drewN ?_ _) | (with_reducible refine Box.alloc ?_ _) | (with_reducible apply Box.setE) | ((with_reducible apply Box.otherE); first | (exact (by omega)) | (exact (by simp)) | (exact (by simp; omega))) | (exact (rfl : Array.setIfInBounds _ _ _ = _)))
      clear hW4
      clear qX_0 fX_0 qX_1 fX_1 qY_0 fY_0 qY_1 fY_1 qY_2 fY_2
      have hKk : hapK m = 1 := by have h1 := HK.out; have h2 := HK6.out; omega
      have e1 : hapN n m = N3 := by rw [HN3.out]; unfold hapN; rw [hKk]; simp only []; rw [← HT.out]
      have e2 : hapE n m = E3 := by rw [HE3.out]; unfold hapE; rw [hKk]; simp only []; rw [← HT.out]
      have e3 : hapP n m = P3 := by rw [HP3.out]; unfold hapP; rw [hKk]; rw [← HT.out]; rfl
      rw [e1, e2, e3]
      have BX := HBX.out
      have BY := HBY.out
      exact bodyPost_ret (v := .tuple #[.agg #[.slice qa3 N3.queue.length qc3, .slice aa3 N3.apart.length ac3], .agg #[.int .i64 P3.src, .int .i64 P3.dst, .slice da3 P3.data.length dc3], .int .i64 E3]) (by simp [results, Try.results27, go_sem, BX.cell 0 rfl, BX.cell 1 rfl, BY.cell 0 rfl, BY.cell 1 rfl, BY.cell 2 rfl]) rfl ⟨qa3, qc3, aa3, ac3, da3, dc3, rfl, good_net.leave (good_net.step DR.out HS4.out) (Step.refl _ _), good_pk.leave (good_pk.step DQ.out HS4.out) (Step.refl _ _), Step.to_below (Step.trans (Step.trans (Step.trans HS1.out HS2.out) HS3.out) HS4.out) HSS.out⟩
    · have hk : (kd : Int) % 6 = 2 := hk6
      go_upto_region 4 with (fail)
      go_quiet (fail)
      go_upto_region 11 with (fail)
      refine wp_name ?_
      intro W2 hW2
      have HV2 : Hid (Step [w.heap.size + 1 + 1, w.heap.size + 1 + 1 + 1] W1 W2) := by
        rw [hW2]
        refine Lib.hid ?_
        repeat (first | (with_reducible exact (Step.refl [w.heap.size + 1 + 1, w.heap.size + 1 + 1 + 1] W1)) | (with_reducible refine Step.drew ?_) | (with_reducible refine Step.drewN ?_ _) | (with_reducible refine Step.alloc ?_ _) | ((with_reducible apply Step.setE); focus (first | (left; simp; done) | (right; simp; done) | (right; simp; omega) | (right; dsimp only; omega) | (right; omega))))
      have HS2 : Hid (Step [w.heap.size + 1 + 1, w.heap.size + 1 + 1 + 1] W1 W2) := Lib.hid HV2.out
      replace HBX : Hid (Box W2 (w.heap.size + 1 + 1) #[.slice none 0 0, .slice none 0 0] 25) := by
        rw [hW2]
        refine Lib.hid ?_
        repeat (first | (with_reducible exact HBX.out) | (with_reducible exact Box.newE _ _ _ _ (by first | rfl | (simp; done))) | (with_reducible refine Box.drew ?_) | (with_reducible refine Box.drewN ?_ _) | (with_reducible refine Box.alloc ?_ _) | (with_reducible apply Box.setE) | ((with_reducible apply Box.otherE); first | (exact (by omega)) | (exact (by simp)) | (exact (by simp; omega))) | (exact (rfl : Array.setIfInBounds _ _ _ = _)))
      replace HBY : Hid (Box W2 (w.heap.size + 1 + 1 + 1) #[.int .i64 0, .int .i64 0, .slice none 0 0] 28) := by
        rw [hW2]
        refine Lib.hid ?_
        repeat (first | (with_reducible exact HBY.out) | (with_reducible exact Box.newE _ _ _ _ (by first | rfl | (simp; done))) | (with_reducible refine Box.drew ?_) | (with_reducible refine Box.drewN ?_ _) | (with_reducible refine Box.alloc ?_ _) | (with_reducible apply Box.setE) | ((with_reducible apply Box.otherE); first | (exact (by omega)) | (exact (by simp)) | (exact (by simp; omega))) | (exact (rfl : Array.setIfInBounds _ _ _ = _)))
      clear hW2
      clear qN_0 qN_1 qM_0 qM_1 qM_2 qM_3 qM_4
      have HK6 := Lib.hid hk6
      clear hk hk6
      obtain ⟨N3, hN3⟩ : ∃ x, x = loseN n tt := ⟨_, rfl⟩
      obtain ⟨E3, hE3⟩ : ∃ x, x = askE n tt := ⟨_, rfl⟩
      have hx := lose_any n tt qa qc aa ac W2 (Dom (fun b => F b ∨ w.heap.size ≤ b) [w.heap.size + 1 + 1, w.heap.size + 1 + 1 + 1] W2) dom_lt (good_net.step DN.out HS2.out)
      rw [← hN3, ← hE3] at hx
      have HN3 := Lib.hid hN3
      have HE3 := Lib.hid hE3
      clear hN3 hE3
      replace HBN : Hid (Box W2 (w.heap.size) #[.slice qa n.queue.length qc, .slice aa n.apart.length ac] 25) := Lib.hid (HBN.out.step HS2.out (by (first | omega | (simp; done) | (simp; omega))))
      have qN_0 := HBN.out.cell 0 rfl
      have qN_1 := HBN.out.cell 1 rfl
      replace HBM : Hid (Box W2 (w.heap.size + 1) #[.int .u8 (kd : Int), .int .u8 (mt : Int), .int .u8 (ma : Int), .int .u8 (mb : Int), .int .u8 (md : Int)] 52) := Lib.hid (HBM.out.step HS2.out (by (first | omega | (simp; done) | (simp; omega))))
      have qM_0 := HBM.out.cell 0 rfl
      have qM_1 := HBM.out.cell 1 rfl
      have qM_2 := HBM.out.cell 2 rfl
      have qM_3 := HBM.out.cell 3 rfl
      have qM_4 := HBM.out.cell 4 rfl
      go_wp2_with fail
      refine hx.mono ?_
      rintro e v3 ⟨qa3, qc3, aa3, ac3, rfl, hn3, hb3⟩
      clear hx
      clear qN_0 qN_1 qM_0 qM_1 qM_2 qM_3 qM_4
      have HN4 := Lib.hid (good_net.back hn3 (fun b hb => .inr (Nat.le_trans (Step.trans HS1.out HS2.out).size hb)) (fun b hb => Nat.lt_of_lt_of_le (HSL.out b hb) HS2.out.size))
      clear hn3
      have BVX := HBX.out.below hb3
      have qX_0 := BVX.cell 0 rfl
      have fX_0 := BVX.free 0
      have qX_1 := BVX.cell 1 rfl
      have fX_1 := BVX.free 1
      have BVY := HBY.out.below hb3
      have qY_0 := BVY.cell 0 rfl
      have fY_0 := BVY.free 0
      have qY_1 := BVY.cell 1 rfl
      have fY_1 := BVY.free 1
      have qY_2 := BVY.cell 2 rfl
      have fY_2 := BVY.free 2
      go_upto_region 18 with (fail)
      clear qX_0 fX_0 qX_1 fX_1 qY_0 fY_0 qY_1 fY_1 qY_2 fY_2
      refine wp_name ?_
      intro W3 hW3
      have HV3 : Hid (Step [w.heap.size + 1 + 1, w.heap.size + 1 + 1 + 1] v3 W3) := by
        rw [hW3]
        refine Lib.hid ?_
        repeat (first | (with_reducible exact (Step.refl [w.heap.size + 1 + 1, w.heap.size + 1 + 1 + 1] v3)) | (with_reducible refine Step.drew ?_) | (with_reducible refine Step.drewN ?_ _) | (with_reducible refine Step.alloc ?_ _) | ((with_reducible apply Step.setE); focus (first | (left; simp; done) | (right; simp; done) | (right; simp; omega) | (right; dsimp only; omega) | (right; omega))))
      have HS3 : Hid (Step [w.heap.size + 1 + 1, w.heap.size + 1 + 1 + 1] W2 W3) := Lib.hid ((Step.of_below hb3).trans HV3.out)
      replace HBX : Hid (Box W3 (w.heap.size + 1 + 1) #[.slice qa3 N3.queue.length qc3, .slice aa3 N3.apart.length ac3] 25) := by
        rw [hW3]
        refine Lib.hid ?_
        repeat (first | (with_reducible exact (HBX.out.below hb3)) | (with_reducible exact Box.newE _ _ _ _ (by first | rfl | (simp; done))) | (with_reducible refine Box.drew ?_) | (with_reducible refine Box.drewN ?_ _) | (with_reducible refine Box.alloc ?_ _) | (with_reducible apply Box.setE) | ((with_reducible apply Box.otherE); first | (exact (by omega)) | (exact (by simp)) | (exact (by simp; omega))) | (exact (rfl : Array.setIfInBounds _ _ _ = _)))
      replace HBY : Hid (Box W3 (w.heap.size + 1 + 1 + 1) #[.int .i64 0, .int .i64 0, .slice none 0 0] 28) := by
        rw [hW3]
        refine Lib.hid ?_
        repeat (first | (with_reducible exact (HBY.out.below hb3)) | (with_reducible exact Box.newE _ _ _ _ (by first | rfl | (simp; done))) | (with_reducible refine Box.drew ?_) | (with_reducible refine Box.drewN ?_ _) | (with_reducible refine Box.alloc ?_ _) | (with_reducible apply Box.setE) | ((with_reducible apply Box.otherE); first | (exact (by omega)) | (exact (by simp)) | (exact (by simp; omega))) | (exact (rfl : Array.setIfInBounds _ _ _ = _)))
      clear hW3
      clear hb3 BVX BVY
      have DR : Hid (RNet (Dom (fun b => F b ∨ w.heap.size ≤ b) [w.heap.size + 1 + 1, w.heap.size + 1 + 1 + 1] W3) W3 N3 [.slice qa3 N3.queue.length qc3, .slice aa3 N3.apart.length ac3]) := Lib.hid (good_net.step HN4.out HV3.out)
      have qX_0 := HBX.out.cell 0 rfl
      have fX_0 := HBX.out.free 0
      have qX_1 := HBX.out.cell 1 rfl
      have fX_1 := HBX.out.free 1
      have qY_0 := HBY.out.cell 0 rfl
      have fY_0 := HBY.out.free 0
      have qY_1 := HBY.out.cell 1 rfl
      have fY_1 := HBY.out.free 1
      have qY_2 := HBY.out.cell 2 rfl
      have fY_2 := HBY.out.free 2
      go_region
      go_wp2
      refine post_name ?_
      intro W4 hW4
      have HV4 : Hid (Step [w.heap.size + 1 + 1, w.heap.size + 1 + 1 + 1] W3 W4) := by
        rw [hW4]
        refine Lib.hid ?_
        repeat (first | (with_reducible exact (Step.refl [w.heap.size + 1 + 1, w.heap.size + 1 + 1 + 1] W3)) | (with_reducible refine Step.drew ?_) | (with_reducible refine Step.drewN ?_ _) | (with_reducible refine Step.alloc ?_ _) | ((with_reducible apply Step.setE); focus (first | (left; simp; done) | (right; simp; done) | (right; simp; omega) | (right; dsimp only; omega) | (right; omega))))
      have HS4 : Hid (Step [w.heap.size + 1 + 1, w.heap.size + 1 + 1 + 1] W3 W4) := Lib.hid HV4.out
      replace HBX : Hid (Box W4 (w.heap.size + 1 + 1) #[.slice qa3 N3.queue.length qc3, .slice aa3 N3.apart.length ac3] 25) := by
        rw [hW4]
        refine Lib.hid ?_
        repeat (first | (with_reducible exact HBX.out) | (with_reducible exact Box.newE _ _ _ _ (by first | rfl | (simp; done))) | (with_reducible refine Box.drew ?_) | (with_reducible refine Box.drewN ?_ _) | (with_reducible refine Box.alloc ?_ _) | (with_reducible apply Box.setE) | ((with_reducible apply Box.otherE); first | (exact (by omega)) | (exact (by simp)) | (exact (by simp; omega))) | (exact (rfl : Array.setIfInBounds _ _ _ = _)))
      replace HBY : Hid (Box W4 (w.heap.size + 1 + 1 + 1) #[.int .i64 0, .int .i64 0, .slice none 0 0] 28) := by
        rw [hW4]
        refine Lib.hid ?_
        repeat (first | (with_reducible exact HBY.out) | (with_reducible exact Box.newE _ _ _ _ (by first | rfl | (simp; done))) | (with_reducible refine Box.drew ?_) | (with_reducible refine Box.drewN ?_ _) | (with_reducible refine Box.alloc ?_ _) | (with_reducible apply Box.setE) | ((with_reducible apply Box.otherE); first | (exact (by omega)) | (exact (by simp)) | (exact (by simp; omega))) | (exact (rfl : Array.setIfInBounds _ _ _ = _)))
      clear hW4
      clear qX_0 fX_0 qX_1 fX_1 qY_0 fY_0 qY_1 fY_1 qY_2 fY_2
      have hKk : hapK m = 2 := by have h1 := HK.out; have h2 := HK6.out; omega
      have e1 : hapN n m = N3 := by rw [HN3.out]; unfold hapN; rw [hKk]; simp only []; rw [← HT.out]
      have e2 : hapE n m = E3 := by rw [HE3.out]; unfold hapE; rw [hKk]; simp only []; rw [← HT.out]
      have e3 : hapP n m = .nil := by unfold hapP; rw [hKk]; rfl
      rw [e1, e2, e3]
      have BX := HBX.out
      have BY := HBY.out
      exact bodyPost_ret (v := .tuple #[.agg #[.slice qa3 N3.queue.length qc3, .slice aa3 N3.apart.length ac3], .agg #[.int .i64 0, .int .i64 0, .slice none 0 0], .int .i64 E3]) (by simp [results, Try.results27, go_sem, BX.cell 0 rfl, BX.cell 1 rfl, BY.cell 0 rfl, BY.cell 1 rfl, BY.cell 2 rfl]) rfl ⟨qa3, qc3, aa3, ac3, none, 0, rfl, good_net.leave (good_net.step DR.out HS4.out) (Step.refl _ _), rpk_nil _ _, Step.to_below (Step.trans (Step.trans (Step.trans HS1.out HS2.out) HS3.out) HS4.out) HSS.out⟩
    · have hk : (kd : Int) % 6 = 3 := hk6
      go_upto_region 4 with (fail)
      go_quiet (fail)
      go_upto_region 13 with (fail)
      refine wp_name ?_
      intro W2 hW2
      have HV2 : Hid (Step [w.heap.size + 1 + 1, w.heap.size + 1 + 1 + 1] W1 W2) := by
        rw [hW2]
        refine Lib.hid ?_
        repeat (first | (with_reducible exact (Step.refl [w.heap.size + 1 + 1, w.heap.size + 1 + 1 + 1] W1)) | (with_reducible refine Step.drew ?_) | (with_reducible refine Step.drewN ?_ _) | (with_reducible refine Step.alloc ?_ _) | ((with_reducible apply Step.setE); focus (first | (left; simp; done) | (right; simp; done) | (right; simp; omega) | (right; dsimp only; omega) | (right; omega))))
      have HS2 : Hid (Step [w.heap.size + 1 + 1, w.heap.size + 1 + 1 + 1] W1 W2) := Lib.hid HV2.out
      replace HBX : Hid (Box W2 (w.heap.size + 1 + 1) #[.slice none 0 0, .slice none 0 0] 25) := by
        rw [hW2]
        refine Lib.hid ?_
        repeat (first | (with_reducible exact HBX.out) | (with_reducible exact Box.newE _ _ _ _ (by first | rfl | (simp; done))) | (with_reducible refine Box.drew ?_) | (with_reducible refine Box.drewN ?_ _) | (with_reducible refine Box.alloc ?_ _) | (with_reducible apply Box.setE) | ((with_reducible apply Box.otherE); first | (exact (by omega)) | (exact (by simp)) | (exact (by simp; omega))) | (exact (rfl : Array.setIfInBounds _ _ _ = _)))
      replace HBY : Hid (Box W2 (w.heap.size + 1 + 1 + 1) #[.int .i64 0, .int .i64 0, .slice none 0 0] 28) := by
        rw [hW2]
        refine Lib.hid ?_
        repeat (first | (with_reducible exact HBY.out) | (with_reducible exact Box.newE _ _ _ _ (by first | rfl | (simp; done))) | (with_reducible refine Box.drew ?_) | (with_reducible refine Box.drewN ?_ _) | (with_reducible refine Box.alloc ?_ _) | (with_reducible apply Box.setE) | ((with_reducible apply Box.otherE); first | (exact (by omega)) | (exact (by simp)) | (exact (by simp; omega))) | (exact (rfl : Array.setIfInBounds _ _ _ = _)))
      clear hW2
      clear qN_0 qN_1 qM_0 qM_1 qM_2 qM_3 qM_4
      have HK6 := Lib.hid hk6
      clear hk hk6
      obtain ⟨N3, hN3⟩ : ∃ x, x = repN n tt := ⟨_, rfl⟩
      obtain ⟨E3, hE3⟩ : ∃ x, x = repE n tt := ⟨_, rfl⟩
      have hx := repeat_any n tt qa qc aa ac W2 (Dom (fun b => F b ∨ w.heap.size ≤ b) [w.heap.size + 1 + 1, w.heap.size + 1 + 1 + 1] W2) dom_lt (good_net.step DN.out HS2.out)
      rw [← hN3, ← hE3] at hx
      have HN3 := Lib.hid hN3
      have HE3 := Lib.hid hE3
      clear hN3 hE3
      replace HBN : Hid (Box W2 (w.heap.size) #[.slice qa n.queue.length qc, .slice aa n.apart.length ac] 25) := Lib.hid (HBN.out.step HS2.out (by (first | omega | (simp; done) | (simp; omega))))
      have qN_0 := HBN.out.cell 0 rfl
      have qN_1 := HBN.out.cell 1 rfl
      replace HBM : Hid (Box W2 (w.heap.size + 1) #[.int .u8 (kd : Int), .int .u8 (mt : Int), .int .u8 (ma : Int), .int .u8 (mb : Int), .int .u8 (md : Int)] 52) := Lib.hid (HBM.out.step HS2.out (by (first | omega | (simp; done) | (simp; omega))))
      have qM_0 := HBM.out.cell 0 rfl
      have qM_1 := HBM.out.cell 1 rfl
      have qM_2 := HBM.out.cell 2 rfl
      have qM_3 := HBM.out.cell 3 rfl
      have qM_4 := HBM.out.cell 4 rfl
      go_wp2_with fail
      refine hx.mono ?_
      rintro e v3 ⟨qa3, qc3, aa3, ac3, rfl, hn3, hb3⟩
      clear hx
      clear qN_0 qN_1 qM_0 qM_1 qM_2 qM_3 qM_4
      have HN4 := Lib.hid (good_net.back hn3 (fun b hb => .inr (Nat.le_trans (Step.trans HS1.out HS2.out).size hb)) (fun b hb => Nat.lt_of_lt_of_le (HSL.out b hb) HS2.out.size))
      clear hn3
      have BVX := HBX.out.below hb3
      have qX_0 := BVX.cell 0 rfl
      have fX_0 := BVX.free 0
      have qX_1 := BVX.cell 1 rfl
      have fX_1 := BVX.free 1
      have BVY := HBY.out.below hb3
      have qY_0 := BVY.cell 0 rfl
      have fY_0 := BVY.free 0
      have qY_1 := BVY.cell 1 rfl
      have fY_1 := BVY.free 1
      have qY_2 := BVY.cell 2 rfl
      have fY_2 := BVY.free 2
      go_upto_region 18 with (fail)
      clear qX_0 fX_0 qX_1 fX_1 qY_0 fY_0 qY_1 fY_1 qY_2 fY_2
      refine wp_name ?_
      intro W3 hW3
      have HV3 : Hid (Step [w.heap.size + 1 + 1, w.heap.size + 1 + 1 + 1] v3 W3) := by
        rw [hW3]
        refine Lib.hid ?_
        repeat (first | (with_reducible exact (Step.refl [w.heap.size + 1 + 1, w.heap.size + 1 + 1 + 1] v3)) | (with_reducible refine Step.drew ?_) | (with_reducible refine Step.drewN ?_ _) | (with_reducible refine Step.alloc ?_ _) | ((with_reducible apply Step.setE); focus (first | (left; simp; done) | (right; simp; done) | (right; simp; omega) | (right; dsimp only; omega) | (right; omega))))
      have HS3 : Hid (Step [w.heap.size + 1 + 1, w.heap.size + 1 + 1 + 1] W2 W3) := Lib.hid ((Step.of_below hb3).trans HV3.out)
      replace HBX : Hid (Box W3 (w.heap.size + 1 + 1) #[.slice qa3 N3.queue.length qc3, .slice aa3 N3.apart.length ac3] 25) := by
        rw [hW3]
        refine Lib.hid ?_
        repeat (first | (with_reducible exact (HBX.out.below hb3)) | (with_reducible exact Box.newE _ _ _ _ (by first | rfl | (simp; done))) | (with_reducible refine Box.drew ?_) | (with_reducible refine Box.drewN ?_ _) | (with_reducible refine Box.alloc ?_ _) | (with_reducible apply Box.setE) | ((with_reducible apply Box.otherE); first | (exact (by omega)) | (exact (by simp)) | (exact (by simp; omega))) | (exact (rfl : Array.setIfInBounds _ _ _ = _)))
      replace HBY : Hid (Box W3 (w.heap.size + 1 + 1 + 1) #[.int .i64 0, .int .i64 0, .slice none 0 0] 28) := by
        rw [hW3]
        refine Lib.hid ?_
        repeat (first | (with_reducible exact (HBY.out.below hb3)) | (with_reducible exact Box.newE _ _ _ _ (by first | rfl | (simp; done))) | (with_reducible refine Box.drew ?_) | (with_reducible refine Box.drewN ?_ _) | (with_reducible refine Box.alloc ?_ _) | (with_reducible apply Box.setE) | ((with_reducible apply Box.otherE); first | (exact (by omega)) | (exact (by simp)) | (exact (by simp; omega))) | (exact (rfl : Array.setIfInBounds _ _ _ = _)))
      clear hW3
      clear hb3 BVX BVY
      have DR : Hid (RNet (Dom (fun b => F b ∨ w.heap.size ≤ b) [w.heap.size + 1 + 1, w.heap.size + 1 + 1 + 1] W3) W3 N3 [.slice qa3 N3.queue.length qc3, .slice aa3 N3.apart.length ac3]) := Lib.hid (good_net.step HN4.out HV3.out)
      have qX_0 := HBX.out.cell 0 rfl
      have fX_0 := HBX.out.free 0
      have qX_1 := HBX.out.cell 1 rfl
      have fX_1 := HBX.out.free 1
      have qY_0 := HBY.out.cell 0 rfl
      have fY_0 := HBY.out.free 0
      have qY_1 := HBY.out.cell 1 rfl
      have fY_1 := HBY.out.free 1
      have qY_2 := HBY.out.cell 2 rfl
      have fY_2 := HBY.out.free 2
      go_region
      go_wp2
      refine post_name ?_
      intro W4 hW4
      have HV4 : Hid (Step [w.heap.size + 1 + 1, w.heap.size + 1 + 1 + 1] W3 W4) := by
        rw [hW4]
        refine Lib.hid ?_
        repeat (first | (with_reducible exact (Step.refl [w.heap.size + 1 + 1, w.heap.size + 1 + 1 + 1] W3)) | (with_reducible refine Step.drew ?_) | (with_reducible refine Step.drewN ?_ _) | (with_reducible refine Step.alloc ?_ _) | ((with_reducible apply Step.setE); focus (first | (left; simp; done) | (right; simp; done) | (right; simp; omega) | (right; dsimp only; omega) | (right; omega))))
      have HS4 : Hid (Step [w.heap.size + 1 + 1, w.heap.size + 1 + 1 + 1] W3 W4) := Lib.hid HV4.out
      replace HBX : Hid (Box W4 (w.heap.size + 1 + 1) #[.slice qa3 N3.queue.length qc3, .slice aa3 N3.apart.length ac3] 25) := by
        rw [hW4]
        refine Lib.hid ?_
        repeat (first | (with_reducible exact HBX.out) | (with_reducible exact Box.newE _ _ _ _ (by first | rfl | (simp; done))) | (with_reducible refine Box.drew ?_) | (with_reducible refine Box.drewN ?_ _) | (with_reducible refine Box.alloc ?_ _) | (with_reducible apply Box.setE) | ((with_reducible apply Box.otherE); first | (exact (by omega)) | (exact (by simp)) | (exact (by simp; omega))) | (exact (rfl : Array.setIfInBounds _ _ _ = _)))
      replace HBY : Hid (Box W4 (w.heap.size + 1 + 1 + 1) #[.int .i64 0, .int .i64 0, .slice none 0 0] 28) := by
        rw [hW4]
        refine Lib.hid ?_
        repeat (first | (with_reducible exact HBY.out) | (with_reducible exact Box.newE _ _ _ _ (by first | rfl | (simp; done))) | (with_reducible refine Box.drew ?_) | (with_reducible refine Box.drewN ?_ _) | (with_reducible refine Box.alloc ?_ _) | (with_reducible apply Box.setE) | ((with_reducible apply Box.otherE); first | (exact (by omega)) | (exact (by simp)) | (exact (by simp; omega))) | (exact (rfl : Array.setIfInBounds _ _ _ = _)))
      clear hW4
      clear qX_0 fX_0 qX_1 fX_1 qY_0 fY_0 qY_1 fY_1 qY_2 fY_2
      have hKk : hapK m = 3 := by have h1 := HK.out; have h2 := HK6.out; omega
      have e1 : hapN n m = N3 := by rw [HN3.out]; unfold hapN; rw [hKk]; simp only []; rw [← HT.out]
      have e2 : hapE n m = E3 := by rw [HE3.out]; unfold hapE; rw [hKk]; simp only []; rw [← HT.out]
      have e3 : hapP n m = .nil := by unfold hapP; rw [hKk]; rfl
      rw [e1, e2, e3]
      have BX := HBX.out
      have BY := HBY.out
      exact bodyPost_ret (v := .tuple #[.agg #[.slice qa3 N3.queue.length qc3, .slice aa3 N3.apart.length ac3], .agg #[.int .i64 0, .int .i64 0, .slice none 0 0], .int .i64 E3]) (by simp [results, Try.results27, go_sem, BX.cell 0 rfl, BX.cell 1 rfl, BY.cell 0 rfl, BY.cell 1 rfl, BY.cell 2 rfl]) rfl ⟨qa3, qc3, aa3, ac3, none, 0, rfl, good_net.leave (good_net.step DR.out HS4.out) (Step.refl _ _), rpk_nil _ _, Step.to_below (Step.trans (Step.trans (Step.trans HS1.out HS2.out) HS3.out) HS4.out) HSS.out⟩
    · have hk : (kd : Int) % 6 = 4 := hk6
      go_upto_region 4 with (fail)
      go_quiet (fail)
      go_upto_region 15 with (fail)
      refine wp_name ?_
      intro W2 hW2
      have HV2 : Hid (Step [w.heap.size + 1 + 1, w.heap.size + 1 + 1 + 1] W1 W2) := by
        rw [hW2]
        refine Lib.hid ?_
        repeat (first | (with_reducible exact (Step.refl [w.heap.size + 1 + 1, w.heap.size + 1 + 1 + 1] W1)) | (with_reducible refine Step.drew ?_) | (with_reducible refine Step.drewN ?_ _) | (with_reducible refine Step.alloc ?_ _) | ((with_reducible apply Step.setE); focus (first | (left; simp; done) | (right; simp; done) | (right; simp; omega) | (right; dsimp only; omega) | (right; omega))))
      have HS2 : Hid (Step [w.heap.size + 1 + 1, w.heap.size + 1 + 1 + 1] W1 W2) := Lib.hid HV2.out
      replace HBX : Hid (Box W2 (w.heap.size + 1 + 1) #[.slice none 0 0, .slice none 0 0] 25) := by
        rw [hW2]
        refine Lib.hid ?_
        repeat (first | (with_reducible exact HBX.out) | (with_reducible exact Box.newE _ _ _ _ (by first | rfl | (simp; done))) | (with_reducible refine Box.drew ?_) | (with_reducible refine Box.drewN ?_ _) | (with_reducible refine Box.alloc ?_ _) | (with_reducible apply Box.setE) | ((with_reducible apply Box.otherE); first | (exact (by omega)) | (exact (by simp)) | (exact (by simp; omega))) | (exact (rfl : Array.setIfInBounds _ _ _ = _)))
      replace HBY : Hid (Box W2 (w.heap.size + 1 + 1 + 1) #[.int .i64 0, .int .i64 0, .slice none 0 0] 28) := by
        rw [hW2]
        refine Lib.hid ?_
        repeat (first | (with_reducible exact HBY.out) | (with_reducible exact Box.newE _ _ _ _ (by first | rfl | (simp; done))) | (with_reducible refine Box.drew ?_) | (with_reducible refine Box.drewN ?_ _) | (with_reducible refine Box.alloc ?_ _) | (with_reducible apply Box.setE) | ((with_reducible apply Box.otherE); first | (exact (by omega)) | (exact (by simp)) | (exact (by simp; omega))) | (exact (rfl : Array.setIfInBounds _ _ _ = _)))
      clear hW2
      clear qN_0 qN_1 qM_0 qM_1 qM_2 qM_3 qM_4
      have HK6 := Lib.hid hk6
      clear hk hk6
      obtain ⟨N3, hN3⟩ : ∃ x, x = cutN n ((ma : Int) % 24) ((mb : Int) % 24) true := ⟨_, rfl⟩
      obtain ⟨E3, hE3⟩ : ∃ x, x = cutE n ((ma : Int) % 24) ((mb : Int) % 24) := ⟨_, rfl⟩
      have hx := cut_any n ((ma : Int) % 24) ((mb : Int) % 24) true qa qc aa ac W2 (Dom (fun b => F b ∨ w.heap.size ≤ b) [w.heap.size + 1 + 1, w.heap.size + 1 + 1 + 1] W2) dom_lt (good_net.step DN.out HS2.out)
      rw [← hN3, ← hE3] at hx
      have HN3 := Lib.hid hN3
      have HE3 := Lib.hid hE3
      clear hN3 hE3
      replace HBN : Hid (Box W2 (w.heap.size) #[.slice qa n.queue.length qc, .slice aa n.apart.length ac] 25) := Lib.hid (HBN.out.step HS2.out (by (first | omega | (simp; done) | (simp; omega))))
      have qN_0 := HBN.out.cell 0 rfl
      have qN_1 := HBN.out.cell 1 rfl
      replace HBM : Hid (Box W2 (w.heap.size + 1) #[.int .u8 (kd : Int), .int .u8 (mt : Int), .int .u8 (ma : Int), .int .u8 (mb : Int), .int .u8 (md : Int)] 52) := Lib.hid (HBM.out.step HS2.out (by (first | omega | (simp; done) | (simp; omega))))
      have qM_0 := HBM.out.cell 0 rfl
      have qM_1 := HBM.out.cell 1 rfl
      have qM_2 := HBM.out.cell 2 rfl
      have qM_3 := HBM.out.cell 3 rfl
      have qM_4 := HBM.out.cell 4 rfl
      go_wp2_with fail
      refine hx.mono ?_
      rintro e v3 ⟨qa3, qc3, aa3, ac3, rfl, hn3, hb3⟩
      clear hx
      clear qN_0 qN_1 qM_0 qM_1 qM_2 qM_3 qM_4
      have HN4 := Lib.hid (good_net.back hn3 (fun b hb => .inr (Nat.le_trans (Step.trans HS1.out HS2.out).size hb)) (fun b hb => Nat.lt_of_lt_of_le (HSL.out b hb) HS2.out.size))
      clear hn3
      have BVX := HBX.out.below hb3
      have qX_0 := BVX.cell 0 rfl
      have fX_0 := BVX.free 0
      have qX_1 := BVX.cell 1 rfl
      have fX_1 := BVX.free 1
      have BVY := HBY.out.below hb3
      have qY_0 := BVY.cell 0 rfl
      have fY_0 := BVY.free 0
      have qY_1 := BVY.cell 1 rfl
      have fY_1 := BVY.free 1
      have qY_2 := BVY.cell 2 rfl
      have fY_2 := BVY.free 2
      go_upto_region 18 with (fail)
      clear qX_0 fX_0 qX_1 fX_1 qY_0 fY_0 qY_1 fY_1 qY_2 fY_2
      refine wp_name ?_
      intro W3 hW3
      have HV3 : Hid (Step [w.heap.size + 1 + 1, w.heap.size + 1 + 1 + 1] v3 W3) := by
        rw [hW3]
        refine Lib.hid ?_
        repeat (first | (with_reducible exact (Step.refl [w.heap.size + 1 + 1, w.heap.size + 1 + 1 + 1] v3)) | (with_reducible refine Step.drew ?_) | (with_reducible refine Step.drewN ?_ _) | (with_reducible refine Step.alloc ?_ _) | ((with_reducible apply Step.setE); focus (first | (left; simp; done) | (right; simp; done) | (right; simp; omega) | (right; dsimp only; omega) | (right; omega))))
      have HS3 : Hid (Step [w.heap.size + 1 + 1, w.heap.size + 1 + 1 + 1] W2 W3) := Lib.hid ((Step.of_below hb3).trans HV3.out)
      replace HBX : Hid (Box W3 (w.heap.size + 1 + 1) #[.slice qa3 N3.queue.length qc3, .slice aa3 N3.apart.length ac3] 25) := by
        rw [hW3]
        refine Lib.hid ?_
        repeat (first | (with_reducible exact (HBX.out.below hb3)) | (with_reducible exact Box.newE _ _ _ _ (by first | rfl | (simp; done))) | (with_reducible refine Box.drew ?_) | (with_reducible refine Box.drewN ?_ _) | (with_reducible refine Box.alloc ?_ _) | (with_reducible apply Box.setE) | ((with_reducible apply Box.otherE); first | (exact (by omega)) | (exact (by simp)) | (exact (by simp; omega))) | (exact (rfl : Array.setIfInBounds _ _ _ = _)))
      replace HBY : Hid (Box W3 (w.heap.size + 1 + 1 + 1) #[.int .i64 0, .int .i64 0, .slice none 0 0] 28) := by
        rw [hW3]
        refine Lib.hid ?_
        repeat (first | (with_reducible exact (HBY.out.below hb3)) | (with_reducible exact Box.newE _ _ _ _ (by first | rfl | (simp; done))) | (with_reducible refine Box.drew ?_) | (with_reducible refine Box.drewN ?_ _) | (with_reducible refine Box.alloc ?_ _) | (with_reducible apply Box.setE) | ((with_reducible apply Box.otherE); first | (exact (by omega)) | (exact (by simp)) | (exact (by simp; omega))) | (exact (rfl : Array.setIfInBounds _ _ _ = _)))
      clear hW3
      clear hb3 BVX BVY
      have DR : Hid (RNet (Dom (fun b => F b ∨ w.heap.size ≤ b) [w.heap.size + 1 + 1, w.heap.size + 1 + 1 + 1] W3) W3 N3 [.slice qa3 N3.queue.length qc3, .slice aa3 N3.apart.length ac3]) := Lib.hid (good_net.step HN4.out HV3.out)
      have qX_0 := HBX.out.cell 0 rfl
      have fX_0 := HBX.out.free 0
      have qX_1 := HBX.out.cell 1 rfl
      have fX_1 := HBX.out.free 1
      have qY_0 := HBY.out.cell 0 rfl
      have fY_0 := HBY.out.free 0
      have qY_1 := HBY.out.cell 1 rfl
      have fY_1 := HBY.out.free 1
      have qY_2 := HBY.out.cell 2 rfl
      have fY_2 := HBY.out.free 2
      go_region
      go_wp2
      refine post_name ?_
      intro W4 hW4
      have HV4 : Hid (Step [w.heap.size + 1 + 1, w.heap.size + 1 + 1 + 1] W3 W4) := by
        rw [hW4]
        refine Lib.hid ?_
        repeat (first | (with_reducible exact (Step.refl [w.heap.size + 1 + 1, w.heap.size + 1 + 1 + 1] W3)) | (with_reducible refine Step.drew ?_) | (with_reducible refine Step.drewN ?_ _) | (with_reducible refine Step.alloc ?_ _) | ((with_reducible apply Step.setE); focus (first | (left; simp; done) | (right; simp; done) | (right; simp; omega) | (right; dsimp only; omega) | (right; omega))))
      have HS4 : Hid (Step [w.heap.size + 1 + 1, w.heap.size + 1 + 1 + 1] W3 W4) := Lib.hid HV4.out
      replace HBX : Hid (Box W4 (w.heap.size + 1 + 1) #[.slice qa3 N3.queue.length qc3, .slice aa3 N3.apart.length ac3] 25) := by
        rw [hW4]
        refine Lib.hid ?_
        repeat (first | (with_reducible exact HBX.out) | (with_reducible exact Box.newE _ _ _ _ (by first | rfl | (simp; done))) | (with_reducible refine Box.drew ?_) | (with_reducible refine Box.drewN ?_ _) | (with_reducible refine Box.alloc ?_ _) | (with_reducible apply Box.setE) | ((with_reducible apply Box.otherE); first | (exact (by omega)) | (exact (by simp)) | (exact (by simp; omega))) | (exact (rfl : Array.setIfInBounds _ _ _ = _)))
      replace HBY : Hid (Box W4 (w.heap.size + 1 + 1 + 1) #[.int .i64 0, .int .i64 0, .slice none 0 0] 28) := by
        rw [hW4]
        refine Lib.hid ?_
        repeat (first | (with_reducible exact HBY.out) | (with_reducible exact Box.newE _ _ _ _ (by first | rfl | (simp; done))) | (with_reducible refine Box.drew ?_) | (with_reducible refine Box.drewN ?_ _) | (with_reducible refine Box.alloc ?_ _) | (with_reducible apply Box.setE) | ((with_reducible apply Box.otherE); first | (exact (by omega)) | (exact (by simp)) | (exact (by simp; omega))) | (exact (rfl : Array.setIfInBounds _ _ _ = _)))
      clear hW4
      clear qX_0 fX_0 qX_1 fX_1 qY_0 fY_0 qY_1 fY_1 qY_2 fY_2
      have hKk : hapK m = 4 := by have h1 := HK.out; have h2 := HK6.out; omega
      have e1 : hapN n m = N3 := by rw [HN3.out]; unfold hapN; rw [hKk]; simp only []; rw [← HA.out, ← HB.out]
      have e2 : hapE n m = E3 := by rw [HE3.out]; unfold hapE; rw [hKk]; simp only []; rw [← HA.out, ← HB.out]
      have e3 : hapP n m = .nil := by unfold hapP; rw [hKk]; rfl
      rw [e1, e2, e3]
      have BX := HBX.out
      have BY := HBY.out
      exact bodyPost_ret (v := .tuple #[.agg #[.slice qa3 N3.queue.length qc3, .slice aa3 N3.apart.length ac3], .agg #[.int .i64 0, .int .i64 0, .slice none 0 0], .int .i64 E3]) (by simp [results, Try.results27, go_sem, BX.cell 0 rfl, BX.cell 1 rfl, BY.cell 0 rfl, BY.cell 1 rfl, BY.cell 2 rfl]) rfl ⟨qa3, qc3, aa3, ac3, none, 0, rfl, good_net.leave (good_net.step DR.out HS4.out) (Step.refl _ _), rpk_nil _ _, Step.to_below (Step.trans (Step.trans (Step.trans HS1.out HS2.out) HS3.out) HS4.out) HSS.out⟩
    · have hk : (kd : Int) % 6 = 5 := hk6
      go_upto_region 4 with (fail)
      go_quiet (fail)
      go_upto_region 17 with (fail)
      refine wp_name ?_
      intro W2 hW2
      have HV2 : Hid (Step [w.heap.size + 1 + 1, w.heap.size + 1 + 1 + 1] W1 W2) := by
        rw [hW2]
        refine Lib.hid ?_
        repeat (first | (with_reducible exact (Step.refl [w.heap.size + 1 + 1, w.heap.size + 1 + 1 + 1] W1)) | (with_reducible refine Step.drew ?_) | (with_reducible refine Step.drewN ?_ _) | (with_reducible refine Step.alloc ?_ _) | ((with_reducible apply Step.setE); focus (first | (left; simp; done) | (right; simp; done) | (right; simp; omega) | (right; dsimp only; omega) | (right; omega))))
      have HS2 : Hid (Step [w.heap.size + 1 + 1, w.heap.size + 1 + 1 + 1] W1 W2) := Lib.hid HV2.out
      replace HBX : Hid (Box W2 (w.heap.size + 1 + 1) #[.slice none 0 0, .slice none 0 0] 25) := by
        rw [hW2]
        refine Lib.hid ?_
        repeat (first | (with_reducible exact HBX.out) | (with_reducible exact Box.newE _ _ _ _ (by first | rfl | (simp; done))) | (with_reducible refine Box.drew ?_) | (with_reducible refine Box.drewN ?_ _) | (with_reducible refine Box.alloc ?_ _) | (with_reducible apply Box.setE) | ((with_reducible apply Box.otherE); first | (exact (by omega)) | (exact (by simp)) | (exact (by simp; omega))) | (exact (rfl : Array.setIfInBounds _ _ _ = _)))
      replace HBY : Hid (Box W2 (w.heap.size + 1 + 1 + 1) #[.int .i64 0, .int .i64 0, .slice none 0 0] 28) := by
        rw [hW2]
        refine Lib.hid ?_
        repeat (first | (with_reducible exact HBY.out) | (with_reducible exact Box.newE _ _ _ _ (by first | rfl | (simp; done))) | (with_reducible refine Box.drew ?_) | (with_reducible refine Box.drewN ?_ _) | (with_reducible refine Box.alloc ?_ _) | (with_reducible apply Box.setE) | ((with_reducible apply Box.otherE); first | (exact (by omega)) | (exact (by simp)) | (exact (by simp; omega))) | (exact (rfl : Array.setIfInBounds _ _ _ = _)))
      clear hW2
      clear qN_0 qN_1 qM_0 qM_1 qM_2 qM_3 qM_4
      have HK6 := Lib.hid hk6
      clear hk hk6
      obtain ⟨N3, hN3⟩ : ∃ x, x = cutN n ((ma : Int) % 24) ((mb : Int) % 24) false := ⟨_, rfl⟩
      obtain ⟨E3, hE3⟩ : ∃ x, x = cutE n ((ma : Int) % 24) ((mb : Int) % 24) := ⟨_, rfl⟩
      have hx := cut_any n ((ma : Int) % 24) ((mb : Int) % 24) false qa qc aa ac W2 (Dom (fun b => F b ∨ w.heap.size ≤ b) [w.heap.size + 1 + 1, w.heap.size + 1 + 1 + 1] W2) dom_lt (good_net.step DN.out HS2.out)
      rw [← hN3, ← hE3] at hx
      have HN3 := Lib.hid hN3
      have HE3 := Lib.hid hE3
      clear hN3 hE3
      replace HBN : Hid (Box W2 (w.heap.size) #[.slice qa n.queue.length qc, .slice aa n.apart.length ac] 25) := Lib.hid (HBN.out.step HS2.out (by (first | omega | (simp; done) | (simp; omega))))
      have qN_0 := HBN.out.cell 0 rfl
      have qN_1 := HBN.out.cell 1 rfl
      replace HBM : Hid (Box W2 (w.heap.size + 1) #[.int .u8 (kd : Int), .int .u8 (mt : Int), .int .u8 (ma : Int), .int .u8 (mb : Int), .int .u8 (md : Int)] 52) := Lib.hid (HBM.out.step HS2.out (by (first | omega | (simp; done) | (simp; omega))))
      have qM_0 := HBM.out.cell 0 rfl
      have qM_1 := HBM.out.cell 1 rfl
      have qM_2 := HBM.out.cell 2 rfl
      have qM_3 := HBM.out.cell 3 rfl
      have qM_4 := HBM.out.cell 4 rfl
      go_wp2_with fail
      refine hx.mono ?_
      rintro e v3 ⟨qa3, qc3, aa3, ac3, rfl, hn3, hb3⟩
      clear hx
      clear qN_0 qN_1 qM_0 qM_1 qM_2 qM_3 qM_4
      have HN4 := Lib.hid (good_net.back hn3 (fun b hb => .inr (Nat.le_trans (Step.trans HS1.out HS2.out).size hb)) (fun b hb => Nat.lt_of_lt_of_le (HSL.out b hb) HS2.out.size))
      clear hn3
      have BVX := HBX.out.below hb3
      have qX_0 := BVX.cell 0 rfl
      have fX_0 := BVX.free 0
      have qX_1 := BVX.cell 1 rfl
      have fX_1 := BVX.free 1
      have BVY := HBY.out.below hb3
      have qY_0 := BVY.cell 0 rfl
      have fY_0 := BVY.free 0
      have qY_1 := BVY.cell 1 rfl
      have fY_1 := BVY.free 1
      have qY_2 := BVY.cell 2 rfl
      have fY_2 := BVY.free 2
      go_upto_region 18 with (fail)
      clear qX_0 fX_0 qX_1 fX_1 qY_0 fY_0 qY_1 fY_1 qY_2 fY_2
      refine wp_name ?_
      intro W3 hW3
      have HV3 : Hid (Step [w.heap.size + 1 + 1, w.heap.size + 1 + 1 + 1] v3 W3) := by
        rw [hW3]
        refine Lib.hid ?_
        repeat (first | (with_reducible exact (Step.refl [w.heap.size + 1 + 1, w.heap.size + 1 + 1 + 1] v3)) | (with_reducible refine Step.drew ?_) | (with_reducible refine Step.drewN ?_ _) | (with_reducible refine Step.alloc ?_ _) | ((with_reducible apply Step.setE); focus (first | (left; simp; done) | (right; simp; done) | (right; simp; omega) | (right; dsimp only; omega) | (right; omega))))
      have HS3 : Hid (Step [w.heap.size + 1 + 1, w.heap.size + 1 + 1 + 1] W2 W3) := Lib.hid ((Step.of_below hb3).trans HV3.out)
      replace HBX : Hid (Box W3 (w.heap.size + 1 + 1) #[.slice qa3 N3.queue.length qc3, .slice aa3 N3.apart.length ac3] 25) := by
        rw [hW3]
        refine Lib.hid ?_
        repeat (first | (with_reducible exact (HBX.out.below hb3)) | (with_reducible exact Box.newE _ _ _ _ (by first | rfl | (simp; done))) | (with_reducible refine Box.drew ?_) | (with_reducible refine Box.drewN ?_ _) | (with_reducible refine Box.alloc ?_ _) | (with_reducible apply Box.setE) | ((with_reducible apply Box.otherE); first | (exact (by omega)) | (exact (by simp)) | (exact (by simp; omega))) | (exact (rfl : Array.setIfInBounds _ _ _ = _)))
      replace HBY : Hid (Box W3 (w.heap.size + 1 + 1 + 1) #[.int .i64 0, .int .i64 0, .slice none 0 0] 28) := by
        rw [hW3]
        refine Lib.hid ?_
        repeat (first | (with_reducible exact (HBY.out.below hb3)) | (with_reducible exact Box.newE _ _ _ _ (by first | rfl | (simp; done))) | (with_reducible refine Box.drew ?_) | (with_reducible refine Box.drewN ?_ _) | (with_reducible refine Box.alloc ?_ _) | (with_reducible apply Box.setE) | ((with_reducible apply Box.otherE); first | (exact (by omega)) | (exact (by simp)) | (exact (by simp; omega))) | (exact (rfl : Array.setIfInBounds _ _ _ = _)))
      clear hW3
      clear hb3 BVX BVY
      have DR : Hid (RNet (Dom (fun b => F b ∨ w.heap.size ≤ b) [w.heap.size + 1 + 1, w.heap.size + 1 + 1 + 1] W3) W3 N3 [.slice qa3 N3.queue.length qc3, .slice aa3 N3.apart.length ac3]) := Lib.hid (good_net.step HN4.out HV3.out)
      have qX_0 := HBX.out.cell 0 rfl
      have fX_0 := HBX.out.free 0
      have qX_1 := HBX.out.cell 1 rfl
      have fX_1 := HBX.out.free 1
      have qY_0 := HBY.out.cell 0 rfl
      have fY_0 := HBY.out.free 0
      have qY_1 := HBY.out.cell 1 rfl
      have fY_1 := HBY.out.free 1
      have qY_2 := HBY.out.cell 2 rfl
      have fY_2 := HBY.out.free 2
      go_region
      go_wp2
      refine post_name ?_
      intro W4 hW4
      have HV4 : Hid (Step [w.heap.size + 1 + 1, w.heap.size + 1 + 1 + 1] W3 W4) := by
        rw [hW4]
        refine Lib.hid ?_
        repeat (first | (with_reducible exact (Step.refl [w.heap.size + 1 + 1, w.heap.size + 1 + 1 + 1] W3)) | (with_reducible refine Step.drew ?_) | (with_reducible refine Step.drewN ?_ _) | (with_reducible refine Step.alloc ?_ _) | ((with_reducible apply Step.setE); focus (first | (left; simp; done) | (right; simp; done) | (right; simp; omega) | (right; dsimp only; omega) | (right; omega))))
      have HS4 : Hid (Step [w.heap.size + 1 + 1, w.heap.size + 1 + 1 + 1] W3 W4) := Lib.hid HV4.out
      replace HBX : Hid (Box W4 (w.heap.size + 1 + 1) #[.slice qa3 N3.queue.length qc3, .slice aa3 N3.apart.length ac3] 25) := by
        rw [hW4]
        refine Lib.hid ?_
        repeat (first | (with_reducible exact HBX.out) | (with_reducible exact Box.newE _ _ _ _ (by first | rfl | (simp; done))) | (with_reducible refine Box.drew ?_) | (with_reducible refine Box.drewN ?_ _) | (with_reducible refine Box.alloc ?_ _) | (with_reducible apply Box.setE) | ((with_reducible apply Box.otherE); first | (exact (by omega)) | (exact (by simp)) | (exact (by simp; omega))) | (exact (rfl : Array.setIfInBounds _ _ _ = _)))
      replace HBY : Hid (Box W4 (w.heap.size + 1 + 1 + 1) #[.int .i64 0, .int .i64 0, .slice none 0 0] 28) := by
        rw [hW4]
        refine Lib.hid ?_
        repeat (first | (with_reducible exact HBY.out) | (with_reducible exact Box.newE _ _ _ _ (by first | rfl | (simp; done))) | (with_reducible refine Box.drew ?_) | (with_reducible refine Box.drewN ?_ _) | (with_reducible refine Box.alloc ?_ _) | (with_reducible apply Box.setE) | ((with_reducible apply Box.otherE); first | (exact (by omega)) | (exact (by simp)) | (exact (by simp; omega))) | (exact (rfl : Array.setIfInBounds _ _ _ = _)))
      clear hW4
      clear qX_0 fX_0 qX_1 fX_1 qY_0 fY_0 qY_1 fY_1 qY_2 fY_2
      have hKk : hapK m = 5 := by have h1 := HK.out; have h2 := HK6.out; omega
      have e1 : hapN n m = N3 := by rw [HN3.out]; unfold hapN; rw [hKk]; simp only []; rw [← HA.out, ← HB.out]
      have e2 : hapE n m = E3 := by rw [HE3.out]; unfold hapE; rw [hKk]; simp only []; rw [← HA.out, ← HB.out]
      have e3 : hapP n m = .nil := by unfold hapP; rw [hKk]; rfl
      rw [e1, e2, e3]
      have BX := HBX.out
      have BY := HBY.out
      exact bodyPost_ret (v := .tuple #[.agg #[.slice qa3 N3.queue.length qc3, .slice aa3 N3.apart.length ac3], .agg #[.int .i64 0, .int .i64 0, .slice none 0 0], .int .i64 E3]) (by simp [results, Try.results27, go_sem, BX.cell 0 rfl, BX.cell 1 rfl, BY.cell 0 rfl, BY.cell 1 rfl, BY.cell 2 rfl]) rfl ⟨qa3, qc3, aa3, ac3, none, 0, rfl, good_net.leave (good_net.step DR.out HS4.out) (Step.refl _ _), rpk_nil _ _, Step.to_below (Step.trans (Step.trans (Step.trans HS1.out HS2.out) HS3.out) HS4.out) HSS.out⟩
  · obtain rfl : tt = 0 := (HT2.out h0).symm
    rcases hk6 with hk6 | hk6 | hk6 | hk6 | hk6 | hk6
    · have hk : (kd : Int) % 6 = 0 := hk6
      go_upto_region 4 with (fail)
      go_quiet (fail)
      go_upto_region 7 with (fail)
      refine wp_name ?_
      intro W2 hW2
      have HV2 : Hid (Step [w.heap.size + 1 + 1, w.heap.size + 1 + 1 + 1] W1 W2) := by
        rw [hW2]
        refine Lib.hid ?_
        repeat (first | (with_reducible exact (Step.refl [w.heap.size + 1 + 1, w.heap.size + 1 + 1 + 1] W1)) | (with_reducible refine Step.drew ?_) | (with_reducible refine Step.drewN ?_ _) | (with_reducible refine Step.alloc ?_ _) | ((with_reducible apply Step.setE); focus (first | (left; simp; done) | (right; simp; done) | (right; simp; omega) | (right; dsimp only; omega) | (right; omega))))
      have HS2 : Hid (Step [w.heap.size + 1 + 1, w.heap.size + 1 + 1 + 1] W1 W2) := Lib.hid HV2.out
      replace HBX : Hid (Box W2 (w.heap.size + 1 + 1) #[.slice none 0 0, .slice none 0 0] 25) := by
        rw [hW2]
        refine Lib.hid ?_
        repeat (first | (with_reducible exact HBX.out) | (with_reducible exact Box.newE _ _ _ _ (by first | rfl | (simp; done))) | (with_reducible refine Box.drew ?_) | (with_reducible refine Box.drewN ?_ _) | (with_reducible refine Box.alloc ?_ _) | (with_reducible apply Box.setE) | ((with_reducible apply Box.otherE); first | (exact (by omega)) | (exact (by simp)) | (exact (by simp; omega))) | (exact (rfl : Array.setIfInBounds _ _ _ = _)))
      replace HBY : Hid (Box W2 (w.heap.size + 1 + 1 + 1) #[.int .i64 0, .int .i64 0, .slice none 0 0] 28) := by
        rw [hW2]
        refine Lib.hid ?_
        repeat (first | (with_reducible exact HBY.out) | (with_reducible exact Box.newE _ _ _ _ (by first | rfl | (simp; done))) | (with_reducible refine Box.drew ?_) | (with_reducible refine Box.drewN ?_ _) | (with_reducible refine Box.alloc ?_ _) | (with_reducible apply Box.setE) | ((with_reducible apply Box.otherE); first | (exact (by omega)) | (exact (by simp)) | (exact (by simp; omega))) | (exact (rfl : Array.setIfInBounds _ _ _ = _)))
      clear hW2
      clear qN_0 qN_1 qM_0 qM_1 qM_2 qM_3 qM_4
      have HK6 := Lib.hid hk6
      clear hk hk6
      obtain ⟨N3, hN3⟩ : ∃ x, x = sendN n ⟨((ma : Int) % 24), ((mb : Int) % 24), [m.data]⟩ := ⟨_, rfl⟩
      obtain ⟨E3, hE3⟩ : ∃ x, x = sendE n ⟨((ma : Int) % 24), ((mb : Int) % 24), [m.data]⟩ := ⟨_, rfl⟩
      have BD := Box.new W2 #[.int .u8 (md : Int)] 5
      have HSA : Hid (Step [w.heap.size + 1 + 1, w.heap.size + 1 + 1 + 1] W2 (W2.alloc (.cells #[.int .u8 (md : Int)] 5))) := Lib.hid ((Step.refl _ _).alloc _)
      have HLT : Hid (∀ b ∈ [w.heap.size + 1 + 1, w.heap.size + 1 + 1 + 1], b < W2.heap.size) := Lib.hid (fun b hb => Nat.lt_of_lt_of_le (HSL.out b hb) HS2.out.size)
      have HGE : Hid (w.heap.size ≤ W2.heap.size) := Lib.hid (Step.trans HS1.out HS2.out).size
      have hx := send_any n ⟨((ma : Int) % 24), ((mb : Int) % 24), [m.data]⟩ qa qc aa ac (some ⟨W2.heap.size, 0, none⟩) 1 (W2.alloc (.cells #[.int .u8 (md : Int)] 5)) (Dom (fun b => F b ∨ w.heap.size ≤ b) [w.heap.size + 1 + 1, w.heap.size + 1 + 1 + 1] (W2.alloc (.cells #[.int .u8 (md : Int)] 5))) dom_lt (good_net.step DN.out (HS2.out.trans HSA.out)) (rpk_one HMD.out (by unfold i64R; omega) (by unfold i64R; omega) BD ⟨.inr HGE.out, BD.lt, fun h => Nat.lt_irrefl _ (HLT.out _ h)⟩)
      clear BD HLT HGE
      rw [← hN3, ← hE3] at hx
      have HN3 := Lib.hid hN3
      have HE3 := Lib.hid hE3
      clear hN3 hE3
      replace HBN : Hid (Box W2 (w.heap.size) #[.slice qa n.queue.length qc, .slice aa n.apart.length ac] 25) := Lib.hid (HBN.out.step HS2.out (by (first | omega | (simp; done) | (simp; omega))))
      have qN_0 := HBN.out.cell 0 rfl
      have qN_1 := HBN.out.cell 1 rfl
      replace HBM : Hid (Box W2 (w.heap.size + 1) #[.int .u8 (kd : Int), .int .u8 (mt : Int), .int .u8 (ma : Int), .int .u8 (mb : Int), .int .u8 (md : Int)] 52) := Lib.hid (HBM.out.step HS2.out (by (first | omega | (simp; done) | (simp; omega))))
      have qM_0 := HBM.out.cell 0 rfl
      have qM_1 := HBM.out.cell 1 rfl
      have qM_2 := HBM.out.cell 2 rfl
      have qM_3 := HBM.out.cell 3 rfl
      have qM_4 := HBM.out.cell 4 rfl
      go_wp2_with fail
      refine hx.mono ?_
      rintro e v3 ⟨qa3, qc3, aa3, ac3, rfl, hn3, hb3⟩
      clear hx
      clear qN_0 qN_1 qM_0 qM_1 qM_2 qM_3 qM_4
      have HN4 := Lib.hid (good_net.back hn3 (fun b hb => .inr (Nat.le_trans ((Step.trans HS1.out HS2.out).trans HSA.out).size hb)) (fun b hb => Nat.lt_of_lt_of_le (HSL.out b hb) (HS2.out.trans HSA.out).size))
      clear hn3
      have hb4 : Below W2.heap.size W2 v3 := (below_new W2 _).trans (hb3.mono (by simp))
      have BVX := HBX.out.below hb4
      have qX_0 := BVX.cell 0 rfl
      have fX_0 := BVX.free 0
      have qX_1 := BVX.cell 1 rfl
      have fX_1 := BVX.free 1
      have BVY := HBY.out.below hb4
      have qY_0 := BVY.cell 0 rfl
      have fY_0 := BVY.free 0
      have qY_1 := BVY.cell 1 rfl
      have fY_1 := BVY.free 1
      have qY_2 := BVY.cell 2 rfl
      have fY_2 := BVY.free 2
      go_upto_region 18 with (fail)
      clear qX_0 fX_0 qX_1 fX_1 qY_0 fY_0 qY_1 fY_1 qY_2 fY_2
      refine wp_name ?_
      intro W3 hW3
      have HV3 : Hid (Step [w.heap.size + 1 + 1, w.heap.size + 1 + 1 + 1] v3 W3) := by
        rw [hW3]
        refine Lib.hid ?_
        repeat (first | (with_reducible exact (Step.refl [w.heap.size + 1 + 1, w.heap.size + 1 + 1 + 1] v3)) | (with_reducible refine Step.drew ?_) | (with_reducible refine Step.drewN ?_ _) | (with_reducible refine Step.alloc ?_ _) | ((with_reducible apply Step.setE); focus (first | (left; simp; done) | (right; simp; done) | (right; simp; omega) | (right; dsimp only; omega) | (right; omega))))
      have HS3 : Hid (Step [w.heap.size + 1 + 1, w.heap.size + 1 + 1 + 1] W2 W3) := Lib.hid ((Step.of_below hb4).trans HV3.out)
      replace HBX : Hid (Box W3 (w.heap.size + 1 + 1) #[.slice qa3 N3.queue.length qc3, .slice aa3 N3.apart.length ac3] 25) := by
        rw [hW3]
        refine Lib.hid ?_
        repeat (first | (with_reducible exact (HBX.out.below hb4)) | (with_reducible exact Box.newE _ _ _ _ (by first | rfl | (simp; done))) | (with_reducible refine Box.drew ?_) | (with_reducible refine Box.drewN ?_ _) | (with_reducible refine Box.alloc ?_ _) | (with_reducible apply Box.setE) | ((with_reducible apply Box.otherE); first | (exact (by omega)) | (exact (by simp)) | (exact (by simp; omega))) | (exact (rfl : Array.setIfInBounds _ _ _ = _)))
      replace HBY : Hid (Box W3 (w.heap.size + 1 + 1 + 1) #[.int .i64 0, .int .i64 0, .slice none 0 0] 28) := by
        rw [hW3]
        refine Lib.hid ?_
        repeat (first | (with_reducible exact (HBY.out.below hb4)) | (with_reducible exact Box.newE _ _ _ _ (by first | rfl | (simp; done))) | (with_reducible refine Box.drew ?_) | (with_reducible refine Box.drewN ?_ _) | (with_reducible refine Box.alloc ?_ _) | (with_reducible apply Box.setE) | ((with_reducible apply Box.otherE); first | (exact (by omega)) | (exact (by simp)) | (exact (by simp; omega))) | (exact (rfl : Array.setIfInBounds _ _ _ = _)))
      clear hW3
      clear hb3 BVX BVY hb4
      have DR : Hid (RNet (Dom (fun b => F b ∨ w.heap.size ≤ b) [w.heap.size + 1 + 1, w.heap.size + 1 + 1 + 1] W3) W3 N3 [.slice qa3 N3.queue.length qc3, .slice aa3 N3.apart.length ac3]) := Lib.hid (good_net.step HN4.out HV3.out)
      have qX_0 := HBX.out.cell 0 rfl
      have fX_0 := HBX.out.free 0
      have qX_1 := HBX.out.cell 1 rfl
      have fX_1 := HBX.out.free 1
      have qY_0 := HBY.out.cell 0 rfl
      have fY_0 := HBY.out.free 0
      have qY_1 := HBY.out.cell 1 rfl
      have fY_1 := HBY.out.free 1
      have qY_2 := HBY.out.cell 2 rfl
      have fY_2 := HBY.out.free 2
      go_region
      go_wp2
      refine post_name ?_
      intro W4 hW4
      have HV4 : Hid (Step [w.heap.size + 1 + 1, w.heap.size + 1 + 1 + 1] W3 W4) := by
        rw [hW4]
        refine Lib.hid ?_
        repeat (first | (with_reducible exact (Step.refl [w.heap.size + 1 + 1, w.heap.size + 1 + 1 + 1] W3)) | (with_reducible refine Step.drew ?_) | (with_reducible refine Step.drewN ?_ _) | (with_reducible refine Step.alloc ?_ _) | ((with_reducible apply Step.setE); focus (first | (left; simp; done) | (right; simp; done) | (right; simp; omega) | (right; dsimp only; omega) | (right; omega))))
      have HS4 : Hid (Step [w.heap.size + 1 + 1, w.heap.size + 1 + 1 + 1] W3 W4) := Lib.hid HV4.out
      replace HBX : Hid (Box W4 (w.heap.size + 1 + 1) #[.slice qa3 N3.queue.length qc3, .slice aa3 N3.apart.length ac3] 25) := by
        rw [hW4]
        refine Lib.hid ?_
        repeat (first | (with_reducible exact HBX.out) | (with_reducible exact Box.newE _ _ _ _ (by first | rfl | (simp; done))) | (with_reducible refine Box.drew ?_) | (with_reducible refine Box.drewN ?_ _) | (with_reducible refine Box.alloc ?_ _) | (with_reducible apply Box.setE) | ((with_reducible apply Box.otherE); first | (exact (by omega)) | (exact (by simp)) | (exact (by simp; omega))) | (exact (rfl : Array.setIfInBounds _ _ _ = _)))
      replace HBY : Hid (Box W4 (w.heap.size + 1 + 1 + 1) #[.int .i64 0, .int .i64 0, .slice none 0 0] 28) := by
        rw [hW4]
        refine Lib.hid ?_
        repeat (first | (with_reducible exact HBY.out) | (with_reducible exact Box.newE _ _ _ _ (by first | rfl | (simp; done))) | (with_reducible refine Box.drew ?_) | (with_reducible refine Box.drewN ?_ _) | (with_reducible refine Box.alloc ?_ _) | (with_reducible apply Box.setE) | ((with_reducible apply Box.otherE); first | (exact (by omega)) | (exact (by simp)) | (exact (by simp; omega))) | (exact (rfl : Array.setIfInBounds _ _ _ = _)))
      clear hW4
      clear qX_0 fX_0 qX_1 fX_1 qY_0 fY_0 qY_1 fY_1 qY_2 fY_2
      have hKk : hapK m = 0 := by have h1 := HK.out; have h2 := HK6.out; omega
      have e1 : hapN n m = N3 := by rw [HN3.out]; unfold hapN hapQ; rw [hKk]; simp only []; rw [← HA.out, ← HB.out]
      have e2 : hapE n m = E3 := by rw [HE3.out]; unfold hapE hapQ; rw [hKk]; simp only []; rw [← HA.out, ← HB.out]
      have e3 : hapP n m = .nil := by unfold hapP; rw [hKk]; rfl
      rw [e1, e2, e3]
      have BX := HBX.out
      have BY := HBY.out
      exact bodyPost_ret (v := .tuple #[.agg #[.slice qa3 N3.queue.length qc3, .slice aa3 N3.apart.length ac3], .agg #[.int .i64 0, .int .i64 0, .slice none 0 0], .int .i64 E3]) (by simp [results, Try.results27, go_sem, BX.cell 0 rfl, BX.cell 1 rfl, BY.cell 0 rfl, BY.cell 1 rfl, BY.cell 2 rfl]) rfl ⟨qa3, qc3, aa3, ac3, none, 0, rfl, good_net.leave (good_net.step DR.out HS4.out) (Step.refl _ _), rpk_nil _ _, Step.to_below (Step.trans (Step.trans (Step.trans HS1.out HS2.out) HS3.out) HS4.out) HSS.out⟩
    · have hk : (kd : Int) % 6 = 1 := hk6
      go_upto_region 4 with (fail)
      go_quiet (fail)
      go_upto_region 9 with (fail)
      refine wp_name ?_
      intro W2 hW2
      have HV2 : Hid (Step [w.heap.size + 1 + 1, w.heap.size + 1 + 1 + 1] W1 W2) := by
        rw [hW2]
        refine Lib.hid ?_
        repeat (first | (with_reducible exact (Step.refl [w.heap.size + 1 + 1, w.heap.size + 1 + 1 + 1] W1)) | (with_reducible refine Step.drew ?_) | (with_reducible refine Step.drewN ?_ _) | (with_reducible refine Step.alloc ?_ _) | ((with_reducible apply Step.setE); focus (first | (left; simp; done) | (right; simp; done) | (right; simp; omega) | (right; dsimp only; omega) | (right; omega))))
      have HS2 : Hid (Step [w.heap.size + 1 + 1, w.heap.size + 1 + 1 + 1] W1 W2) := Lib.hid HV2.out
      replace HBX : Hid (Box W2 (w.heap.size + 1 + 1) #[.slice none 0 0, .slice none 0 0] 25) := by
        rw [hW2]
        refine Lib.hid ?_
        repeat (first | (with_reducible exact HBX.out) | (with_reducible exact Box.newE _ _ _ _ (by first | rfl | (simp; done))) | (with_reducible refine Box.drew ?_) | (with_reducible refine Box.drewN ?_ _) | (with_reducible refine Box.alloc ?_ _) | (with_reducible apply Box.setE) | ((with_reducible apply Box.otherE); first | (exact (by omega)) | (exact (by simp)) | (exact (by simp; omega))) | (exact (rfl : Array.setIfInBounds _ _ _ = _)))
      replace HBY : Hid (Box W2 (w.heap.size + 1 + 1 + 1) #[.int .i64 0, .int .i64 0, .slice none 0 0] 28) := by
        rw [hW2]
        refine Lib.hid ?_
        repeat (first | (with_reducible exact HBY.out) | (with_reducible exact Box.newE _ _ _ _ (by first | rfl | (simp; done))) | (with_reducible refine Box.drew ?_) | (with_reducible refine Box.drewN ?_ _) | (with_reducible refine Box.alloc ?_ _) | (with_reducible apply Box.setE) | ((with_reducible apply Box.otherE); first | (exact (by omega)) | (exact (by simp)) | (exact (by simp; omega))) | (exact (rfl : Array.setIfInBounds _ _ _ = _)))
      clear hW2
      clear qN_0 qN_1 qM_0 qM_1 qM_2 qM_3 qM_4
      have HK6 := Lib.hid hk6
      clear hk hk6
      obtain ⟨N3, hN3⟩ : ∃ x, x = loseN n 0 := ⟨_, rfl⟩
      obtain ⟨E3, hE3⟩ : ∃ x, x = askE n 0 := ⟨_, rfl⟩
      obtain ⟨P3, hP3⟩ : ∃ x, x = delP n 0 := ⟨_, rfl⟩
      have hx := deliver_any n 0 qa qc aa ac W2 (Dom (fun b => F b ∨ w.heap.size ≤ b) [w.heap.size + 1 + 1, w.heap.size + 1 + 1 + 1] W2) dom_lt (good_net.step DN.out HS2.out)
      rw [← hN3, ← hE3, ← hP3] at hx
      have HN3 := Lib.hid hN3
      have HE3 := Lib.hid hE3
      clear hN3 hE3
      have HP3 := Lib.hid hP3
      clear hP3
      replace HBN : Hid (Box W2 (w.heap.size) #[.slice qa n.queue.length qc, .slice aa n.apart.length ac] 25) := Lib.hid (HBN.out.step HS2.out (by (first | omega | (simp; done) | (simp; omega))))
      have qN_0 := HBN.out.cell 0 rfl
      have qN_1 := HBN.out.cell 1 rfl
      replace HBM : Hid (Box W2 (w.heap.size + 1) #[.int .u8 (kd : Int), .int .u8 (mt : Int), .int .u8 (ma : Int), .int .u8 (mb : Int), .int .u8 (md : Int)] 52) := Lib.hid (HBM.out.step HS2.out (by (first | omega | (simp; done) | (simp; omega))))
      have qM_0 := HBM.out.cell 0 rfl
      have qM_1 := HBM.out.cell 1 rfl
      have qM_2 := HBM.out.cell 2 rfl
      have qM_3 := HBM.out.cell 3 rfl
      have qM_4 := HBM.out.cell 4 rfl
      go_wp2_with fail
      refine hx.mono ?_
      rintro e v3 ⟨da3, dc3, qa3, qc3, aa3, ac3, rfl, hp3, hn3, hb3⟩
      clear hx
      clear qN_0 qN_1 qM_0 qM_1 qM_2 qM_3 qM_4
      have HN4 := Lib.hid (good_net.back hn3 (fun b hb => .inr (Nat.le_trans (Step.trans HS1.out HS2.out).size hb)) (fun b hb => Nat.lt_of_lt_of_le (HSL.out b hb) HS2.out.size))
      clear hn3
      have HP4 := Lib.hid (good_pk.back hp3 (fun b hb => .inr (Nat.le_trans (Step.trans HS1.out HS2.out).size hb)) (fun b hb => Nat.lt_of_lt_of_le (HSL.out b hb) HS2.out.size))
      clear hp3
      have BVX := HBX.out.below hb3
      have qX_0 := BVX.cell 0 rfl
      have fX_0 := BVX.free 0
      have qX_1 := BVX.cell 1 rfl
      have fX_1 := BVX.free 1
      have BVY := HBY.out.below hb3
      have qY_0 := BVY.cell 0 rfl
      have fY_0 := BVY.free 0
      have qY_1 := BVY.cell 1 rfl
      have fY_1 := BVY.free 1
      have qY_2 := BVY.cell 2 rfl
      have fY_2 := BVY.free 2
      go_upto_region 18 with (fail)
      clear qX_0 fX_0 qX_1 fX_1 qY_0 fY_0 qY_1 fY_1 qY_2 fY_2
      refine wp_name ?_
      intro W3 hW3
      have HV3 : Hid (Step [w.heap.size + 1 + 1, w.heap.size + 1 + 1 + 1] v3 W3) := by
        rw [hW3]
        refine Lib.hid ?_
        repeat (first | (with_reducible exact (Step.refl [w.heap.size + 1 + 1, w.heap.size + 1 + 1 + 1] v3)) | (with_reducible refine Step.drew ?_) | (with_reducible refine Step.drewN ?_ _) | (with_reducible refine Step.alloc ?_ _) | ((with_reducible apply Step.setE); focus (first | (left; simp; done) | (right; simp; done) | (right; simp; omega) | (right; dsimp only; omega) | (right; omega))))
      have HS3 : Hid (Step [w.heap.size + 1 + 1, w.heap.size + 1 + 1 + 1] W2 W3) := Lib.hid ((Step.of_below hb3).trans HV3.out)
      replace HBX : Hid (Box W3 (w.heap.size + 1 + 1) #[.slice qa3 N3.queue.length qc3, .slice aa3 N3.apart.length ac3] 25) := by
        rw [hW3]
        refine Lib.hid ?_
        repeat (first | (with_reducible exact (HBX.out.below hb3)) | (with_reducible exact Box.newE _ _ _ _ (by first | rfl | (simp; done))) | (with_reducible refine Box.drew ?_) | (with_reducible refine Box.drewN ?_ _) | (with_reducible refine Box.alloc ?_ _) | (with_reducible apply Box.setE) | ((with_reducible apply Box.otherE); first | (exact (by omega)) | (exact (by simp)) | (exact (by simp; omega))) | (exact (rfl : Array.setIfInBounds _ _ _ = _)))
      replace HBY : Hid (Box W3 (w.heap.size + 1 + 1 + 1) #[.int .i64 P3.src, .int .i64 P3.dst, .slice da3 P3.data.length dc3] 28) := by
        rw [hW3]
        refine Lib.hid ?_
        repeat (first | (with_reducible exact (HBY.out.below hb3)) | (with_reducible exact Box.newE _ _ _ _ (by first | rfl | (simp; done))) | (with_reducible refine Box.drew ?_) | (with_reducible refine Box.drewN ?_ _) | (with_reducible refine Box.alloc ?_ _) | (with_reducible apply Box.setE) | ((with_reducible apply Box.otherE); first | (exact (by omega)) | (exact (by simp)) | (exact (by simp; omega))) | (exact (rfl : Array.setIfInBounds _ _ _ = _)))
      clear hW3
      clear hb3 BVX BVY
      have DR : Hid (RNet (Dom (fun b => F b ∨ w.heap.size ≤ b) [w.heap.size + 1 + 1, w.heap.size + 1 + 1 + 1] W3) W3 N3 [.slice qa3 N3.queue.length qc3, .slice aa3 N3.apart.length ac3]) := Lib.hid (good_net.step HN4.out HV3.out)
      have DQ : Hid (RPk (Dom (fun b => F b ∨ w.heap.size ≤ b) [w.heap.size + 1 + 1, w.heap.size + 1 + 1 + 1] W3) W3 P3 [.int .i64 P3.src, .int .i64 P3.dst, .slice da3 P3.data.length dc3]) := Lib.hid (good_pk.step HP4.out HV3.out)
      have qX_0 := HBX.out.cell 0 rfl
      have fX_0 := HBX.out.free 0
      have qX_1 := HBX.out.cell 1 rfl
      have fX_1 := HBX.out.free 1
      have qY_0 := HBY.out.cell 0 rfl
      have fY_0 := HBY.out.free 0
      have qY_1 := HBY.out.cell 1 rfl
      have fY_1 := HBY.out.free 1
      have qY_2 := HBY.out.cell 2 rfl
      have fY_2 := HBY.out.free 2
      go_region
      go_wp2
      refine post_name ?_
      intro W4 hW4
      have HV4 : Hid (Step [w.heap.size + 1 + 1, w.heap.size + 1 + 1 + 1] W3 W4) := by
        rw [hW4]
        refine Lib.hid ?_
        repeat (first | (with_reducible exact (Step.refl [w.heap.size + 1 + 1, w.heap.size + 1 + 1 + 1] W3)) | (with_reducible refine Step.drew ?_) | (with_reducible refine Step.drewN ?_ _) | (with_reducible refine Step.alloc ?_ _) | ((with_reducible apply Step.setE); focus (first | (left; simp; done) | (right; simp; done) | (right; simp; omega) | (right; dsimp only; omega) | (right; omega))))
      have HS4 : Hid (Step [w.heap.size + 1 + 1, w.heap.size + 1 + 1 + 1] W3 W4) := Lib.hid HV4.out
      replace HBX : Hid (Box W4 (w.heap.size + 1 + 1) #[.slice qa3 N3.queue.length qc3, .slice aa3 N3.apart.length ac3] 25) := by
        rw [hW4]
        refine Lib.hid ?_
        repeat (first | (with_reducible exact HBX.out) | (with_reducible exact Box.newE _ _ _ _ (by first | rfl | (simp; done))) | (with_reducible refine Box.drew ?_) | (with_reducible refine Box.drewN ?_ _) | (with_reducible refine Box.alloc ?_ _) | (with_reducible apply Box.setE) | ((with_reducible apply Box.otherE); first | (exact (by omega)) | (exact (by simp)) | (exact (by simp; omega))) | (exact (rfl : Array.setIfInBounds _ _ _ = _)))
      replace HBY : Hid (Box W4 (w.heap.size + 1 + 1 + 1) #[.int .i64 P3.src, .int .i64 P3.dst, .slice da3 P3.data.length dc3] 28) := by
        rw [hW4]
        refine Lib.hid ?_
        repeat (first | (with_reducible exact HBY.out) | (with_reducible exact Box.newE _ _ _ _ (by first | rfl | (simp; done))) | (with_reducible refine Box.drew ?_) | (with_reducible refine Box.drewN ?_ _) | (with_reducible refine Box.alloc ?_ _) | (with_reducible apply Box.setE) | ((with_reducible apply Box.otherE); first | (exact (by omega)) | (exact (by simp)) | (exact (by simp; omega))) | (exact (rfl : Array.setIfInBounds _ _ _ = _)))
      clear hW4
      clear qX_0 fX_0 qX_1 fX_1 qY_0 fY_0 qY_1 fY_1 qY_2 fY_2
      have hKk : hapK m = 1 := by have h1 := HK.out; have h2 := HK6.out; omega
      have e1 : hapN n m = N3 := by rw [HN3.out]; unfold hapN; rw [hKk]; simp only []; rw [← HT.out]
      have e2 : hapE n m = E3 := by rw [HE3.out]; unfold hapE; rw [hKk]; simp only []; rw [← HT.out]
      have e3 : hapP n m = P3 := by rw [HP3.out]; unfold hapP; rw [hKk]; rw [← HT.out]; rfl
      rw [e1, e2, e3]
      have BX := HBX.out
      have BY := HBY.out
      exact bodyPost_ret (v := .tuple #[.agg #[.slice qa3 N3.queue.length qc3, .slice aa3 N3.apart.length ac3], .agg #[.int .i64 P3.src, .int .i64 P3.dst, .slice da3 P3.data.length dc3], .int .i64 E3]) (by simp [results, Try.results27, go_sem, BX.cell 0 rfl, BX.cell 1 rfl, BY.cell 0 rfl, BY.cell 1 rfl, BY.cell 2 rfl]) rfl ⟨qa3, qc3, aa3, ac3, da3, dc3, rfl, good_net.leave (good_net.step DR.out HS4.out) (Step.refl _ _), good_pk.leave (good_pk.step DQ.out HS4.out) (Step.refl _ _), Step.to_below (Step.trans (Step.trans (Step.trans HS1.out HS2.out) HS3.out) HS4.out) HSS.out⟩
    · have hk : (kd : Int) % 6 = 2 := hk6
      go_upto_region 4 with (fail)
      go_quiet (fail)
      go_upto_region 11 with (fail)
      refine wp_name ?_
      intro W2 hW2
      have HV2 : Hid (Step [w.heap.size + 1 + 1, w.heap.size + 1 + 1 + 1] W1 W2) := by
        rw [hW2]
        refine Lib.hid ?_
        repeat (first | (with_reducible exact (Step.refl [w.heap.size + 1 + 1, w.heap.size + 1 + 1 + 1] W1)) | (with_reducible refine Step.drew ?_) | (with_reducible refine Step.drewN ?_ _) | (with_reducible refine Step.alloc ?_ _) | ((with_reducible apply Step.setE); focus (first | (left; simp; done) | (right; simp; done) | (right; simp; omega) | (right; dsimp only; omega) | (right; omega))))
      have HS2 : Hid (Step [w.heap.size + 1 + 1, w.heap.size + 1 + 1 + 1] W1 W2) := Lib.hid HV2.out
      replace HBX : Hid (Box W2 (w.heap.size + 1 + 1) #[.slice none 0 0, .slice none 0 0] 25) := by
        rw [hW2]
        refine Lib.hid ?_
        repeat (first | (with_reducible exact HBX.out) | (with_reducible exact Box.newE _ _ _ _ (by first | rfl | (simp; done))) | (with_reducible refine Box.drew ?_) | (with_reducible refine Box.drewN ?_ _) | (with_reducible refine Box.alloc ?_ _) | (with_reducible apply Box.setE) | ((with_reducible apply Box.otherE); first | (exact (by omega)) | (exact (by simp)) | (exact (by simp; omega))) | (exact (rfl : Array.setIfInBounds _ _ _ = _)))
      replace HBY : Hid (Box W2 (w.heap.size + 1 + 1 + 1) #[.int .i64 0, .int .i64 0, .slice none 0 0] 28) := by
        rw [hW2]
        refine Lib.hid ?_
        repeat (first | (with_reducible exact HBY.out) | (with_reducible exact Box.newE _ _ _ _ (by first | rfl | (simp; done))) | (with_reducible refine Box.drew ?_) | (with_reducible refine Box.drewN ?_ _) | (with_reducible refine Box.alloc ?_ _) | (with_reducible apply Box.setE) | ((with_reducible apply Box.otherE); first | (exact (by omega)) | (exact (by simp)) | (exact (by simp; omega))) | (exact (rfl : Array.setIfInBounds _ _ _ = _)))
      clear hW2
      clear qN_0 qN_1 qM_0 qM_1 qM_2 qM_3 qM_4
      have HK6 := Lib.hid hk6
      clear hk hk6
      obtain ⟨N3, hN3⟩ : ∃ x, x = loseN n 0 := ⟨_, rfl⟩
      obtain ⟨E3, hE3⟩ : ∃ x, x = askE n 0 := ⟨_, rfl⟩
      have hx := lose_any n 0 qa qc aa ac W2 (Dom (fun b => F b ∨ w.heap.size ≤ b) [w.heap.size + 1 + 1, w.heap.size + 1 + 1 + 1] W2) dom_lt (good_net.step DN.out HS2.out)
      rw [← hN3, ← hE3] at hx
      have HN3 := Lib.hid hN3
      have HE3 := Lib.hid hE3
      clear hN3 hE3
      replace HBN : Hid (Box W2 (w.heap.size) #[.slice qa n.queue.length qc, .slice aa n.apart.length ac] 25) := Lib.hid (HBN.out.step HS2.out (by (first | omega | (simp; done) | (simp; omega))))
      have qN_0 := HBN.out.cell 0 rfl
      have qN_1 := HBN.out.cell 1 rfl
      replace HBM : Hid (Box W2 (w.heap.size + 1) #[.int .u8 (kd : Int), .int .u8 (mt : Int), .int .u8 (ma : Int), .int .u8 (mb : Int), .int .u8 (md : Int)] 52) := Lib.hid (HBM.out.step HS2.out (by (first | omega | (simp; done) | (simp; omega))))
      have qM_0 := HBM.out.cell 0 rfl
      have qM_1 := HBM.out.cell 1 rfl
      have qM_2 := HBM.out.cell 2 rfl
      have qM_3 := HBM.out.cell 3 rfl
      have qM_4 := HBM.out.cell 4 rfl
      go_wp2_with fail
      refine hx.mono ?_
      rintro e v3 ⟨qa3, qc3, aa3, ac3, rfl, hn3, hb3⟩
      clear hx
      clear qN_0 qN_1 qM_0 qM_1 qM_2 qM_3 qM_4
      have HN4 := Lib.hid (good_net.back hn3 (fun b hb => .inr (Nat.le_trans (Step.trans HS1.out HS2.out).size hb)) (fun b hb => Nat.lt_of_lt_of_le (HSL.out b hb) HS2.out.size))
      clear hn3
      have BVX := HBX.out.below hb3
      have qX_0 := BVX.cell 0 rfl
      have fX_0 := BVX.free 0
      have qX_1 := BVX.cell 1 rfl
      have fX_1 := BVX.free 1
      have BVY := HBY.out.below hb3
      have qY_0 := BVY.cell 0 rfl
      have fY_0 := BVY.free 0
      have qY_1 := BVY.cell 1 rfl
      have fY_1 := BVY.free 1
      have qY_2 := BVY.cell 2 rfl
      have fY_2 := BVY.free 2
      go_upto_region 18 with (fail)
      clear qX_0 fX_0 qX_1 fX_1 qY_0 fY_0 qY_1 fY_1 qY_2 fY_2
      refine wp_name ?_
      intro W3 hW3
      have HV3 : Hid (Step [w.heap.size + 1 + 1, w.heap.size + 1 + 1 + 1] v3 W3) := by
        rw [hW3]
        refine Lib.hid ?_
        repeat (first | (with_reducible exact (Step.refl [w.heap.size + 1 + 1, w.heap.size + 1 + 1 + 1] v3)) | (with_reducible refine Step.drew ?_) | (with_reducible refine Step.drewN ?_ _) | (with_reducible refine Step.alloc ?_ _) | ((with_reducible apply Step.setE); focus (first | (left; simp; done) | (right; simp; done) | (right; simp; omega) | (right; dsimp only; omega) | (right; omega))))
      have HS3 : Hid (Step [w.heap.size + 1 + 1, w.heap.size + 1 + 1 + 1] W2 W3) := Lib.hid ((Step.of_below hb3).trans HV3.out)
      replace HBX : Hid (Box W3 (w.heap.size + 1 + 1) #[.slice qa3 N3.queue.length qc3, .slice aa3 N3.apart.length ac3] 25) := by
        rw [hW3]
        refine Lib.hid ?_
        repeat (first | (with_reducible exact (HBX.out.below hb3)) | (with_reducible exact Box.newE _ _ _ _ (by first | rfl | (simp; done))) | (with_reducible refine Box.drew ?_) | (with_reducible refine Box.drewN ?_ _) | (with_reducible refine Box.alloc ?_ _) | (with_reducible apply Box.setE) | ((with_reducible apply Box.otherE); first | (exact (by omega)) | (exact (by simp)) | (exact (by simp; omega))) | (exact (rfl : Array.setIfInBounds _ _ _ = _)))
      replace HBY : Hid (Box W3 (w.heap.size + 1 + 1 + 1) #[.int .i64 0, .int .i64 0, .slice none 0 0] 28) := by
        rw [hW3]
        refine Lib.hid ?_
        repeat (first | (with_reducible exact (HBY.out.below hb3)) | (with_reducible exact Box.newE _ _ _ _ (by first | rfl | (simp; done))) | (with_reducible refine Box.drew ?_) | (with_reducible refine Box.drewN ?_ _) | (with_reducible refine Box.alloc ?_ _) | (with_reducible apply Box.setE) | ((with_reducible apply Box.otherE); first | (exact (by omega)) | (exact (by simp)) | (exact (by simp; omega))) | (exact (rfl : Array.setIfInBounds _ _ _ = _)))
      clear hW3
      clear hb3 BVX BVY
      have DR : Hid (RNet (Dom (fun b => F b ∨ w.heap.size ≤ b) [w.heap.size + 1 + 1, w.heap.size + 1 + 1 + 1] W3) W3 N3 [.slice qa3 N3.queue.length qc3, .slice aa3 N3.apart.length ac3]) := Lib.hid (good_net.step HN4.out HV3.out)
      have qX_0 := HBX.out.cell 0 rfl
      have fX_0 := HBX.out.free 0
      have qX_1 := HBX.out.cell 1 rfl
      have fX_1 := HBX.out.free 1
      have qY_0 := HBY.out.cell 0 rfl
      have fY_0 := HBY.out.free 0
      have qY_1 := HBY.out.cell 1 rfl
      have fY_1 := HBY.out.free 1
      have qY_2 := HBY.out.cell 2 rfl
      have fY_2 := HBY.out.free 2
      go_region
      go_wp2
      refine post_name ?_
      intro W4 hW4
      have HV4 : Hid (Step [w.heap.size + 1 + 1, w.heap.size + 1 + 1 + 1] W3 W4) := by
        rw [hW4]
        refine Lib.hid ?_
        repeat (first | (with_reducible exact (Step.refl [w.heap.size + 1 + 1, w.heap.size + 1 + 1 + 1] W3)) | (with_reducible refine Step.drew ?_) | (with_reducible refine Step.drewN ?_ _) | (with_reducible refine Step.alloc ?_ _) | ((with_reducible apply Step.setE); focus (first | (left; simp; done) | (right; simp; done) | (right; simp; omega) | (right; dsimp only; omega) | (right; omega))))
      have HS4 : Hid (Step [w.heap.size + 1 + 1, w.heap.size + 1 + 1 + 1] W3 W4) := Lib.hid HV4.out
      replace HBX : Hid (Box W4 (w.heap.size + 1 + 1) #[.slice qa3 N3.queue.length qc3, .slice aa3 N3.apart.length ac3] 25) := by
        rw [hW4]
        refine Lib.hid ?_
        repeat (first | (with_reducible exact HBX.out) | (with_reducible exact Box.newE _ _ _ _ (by first | rfl | (simp; done))) | (with_reducible refine Box.drew ?_) | (with_reducible refine Box.drewN ?_ _) | (with_reducible refine Box.alloc ?_ _) | (with_reducible apply Box.setE) | ((with_reducible apply Box.otherE); first | (exact (by omega)) | (exact (by simp)) | (exact (by simp; omega))) | (exact (rfl : Array.setIfInBounds _ _ _ = _)))
      replace HBY : Hid (Box W4 (w.heap.size + 1 + 1 + 1) #[.int .i64 0, .int .i64 0, .slice none 0 0] 28) := by
        rw [hW4]
        refine Lib.hid ?_
        repeat (first | (with_reducible exact HBY.out) | (with_reducible exact Box.newE _ _ _ _ (by first | rfl | (simp; done))) | (with_reducible refine Box.drew ?_) | (with_reducible refine Box.drewN ?_ _) | (with_reducible refine Box.alloc ?_ _) | (with_reducible apply Box.setE) | ((with_reducible apply Box.otherE); first | (exact (by omega)) | (exact (by simp)) | (exact (by simp; omega))) | (exact (rfl : Array.setIfInBounds _ _ _ = _)))
      clear hW4
      clear qX_0 fX_0 qX_1 fX_1 qY_0 fY_0 qY_1 fY_1 qY_2 fY_2
      have hKk : hapK m = 2 := by have h1 := HK.out; have h2 := HK6.out; omega
      have e1 : hapN n m = N3 := by rw [HN3.out]; unfold hapN; rw [hKk]; simp only []; rw [← HT.out]
      have e2 : hapE n m = E3 := by rw [HE3.out]; unfold hapE; rw [hKk]; simp only []; rw [← HT.out]
      have e3 : hapP n m = .nil := by unfold hapP; rw [hKk]; rfl
      rw [e1, e2, e3]
      have BX := HBX.out
      have BY := HBY.out
      exact bodyPost_ret (v := .tuple #[.agg #[.slice qa3 N3.queue.length qc3, .slice aa3 N3.apart.length ac3], .agg #[.int .i64 0, .int .i64 0, .slice none 0 0], .int .i64 E3]) (by simp [results, Try.results27, go_sem, BX.cell 0 rfl, BX.cell 1 rfl, BY.cell 0 rfl, BY.cell 1 rfl, BY.cell 2 rfl]) rfl ⟨qa3, qc3, aa3, ac3, none, 0, rfl, good_net.leave (good_net.step DR.out HS4.out) (Step.refl _ _), rpk_nil _ _, Step.to_below (Step.trans (Step.trans (Step.trans HS1.out HS2.out) HS3.out) HS4.out) HSS.out⟩
    · have hk : (kd : Int) % 6 = 3 := hk6
      go_upto_region 4 with (fail)
      go_quiet (fail)
      go_upto_region 13 with (fail)
      refine wp_name ?_
      intro W2 hW2
      have HV2 : Hid (Step [w.heap.size + 1 + 1, w.heap.size + 1 + 1 + 1] W1 W2) := by
        rw [hW2]
        refine Lib.hid ?_
        repeat (first | (with_reducible exact (Step.refl [w.heap.size + 1 + 1, w.heap.size + 1 + 1 + 1] W1)) | (with_reducible refine Step.drew ?_) | (with_reducible refine Step.drewN ?_ _) | (with_reducible refine Step.alloc ?_ _) | ((with_reducible apply Step.setE); focus (first | (left; simp; done) | (right; simp; done) | (right; simp; omega) | (right; dsimp only; omega) | (right; omega))))
      have HS2 : Hid (Step [w.heap.size + 1 + 1, w.heap.size + 1 + 1 + 1] W1 W2) := Lib.hid HV2.out
      replace HBX : Hid (Box W2 (w.heap.size + 1 + 1) #[.slice none 0 0, .slice none 0 0] 25) := by
        rw [hW2]
        refine Lib.hid ?_
        repeat (first | (with_reducible exact HBX.out) | (with_reducible exact Box.newE _ _ _ _ (by first | rfl | (simp; done))) | (with_reducible refine Box.drew ?_) | (with_reducible refine Box.drewN ?_ _) | (with_reducible refine Box.alloc ?_ _) | (with_reducible apply Box.setE) | ((with_reducible apply Box.otherE); first | (exact (by omega)) | (exact (by simp)) | (exact (by simp; omega))) | (exact (rfl : Array.setIfInBounds _ _ _ = _)))
      replace HBY : Hid (Box W2 (w.heap.size + 1 + 1 + 1) #[.int .i64 0, .int .i64 0, .slice none 0 0] 28) := by
        rw [hW2]
        refine Lib.hid ?_
        repeat (first | (with_reducible exact HBY.out) | (with_reducible exact Box.newE _ _ _ _ (by first | rfl | (simp; done))) | (with_reducible refine Box.drew ?_) | (with_reducible refine Box.drewN ?_ _) | (with_reducible refine Box.alloc ?_ _) | (with_reducible apply Box.setE) | ((with_reducible apply Box.otherE); first | (exact (by omega)) | (exact (by simp)) | (exact (by simp; omega))) | (exact (rfl : Array.setIfInBounds _ _ _ = _)))
      clear hW2
      clear qN_0 qN_1 qM_0 qM_1 qM_2 qM_3 qM_4
      have HK6 := Lib.hid hk6
      clear hk hk6
      obtain ⟨N3, hN3⟩ : ∃ x, x = repN n 0 := ⟨_, rfl⟩
      obtain ⟨E3, hE3⟩ : ∃ x, x = repE n 0 := ⟨_, rfl⟩
      have hx := repeat_any n 0 qa qc aa ac W2 (Dom (fun b => F b ∨ w.heap.size ≤ b) [w.heap.size + 1 + 1, w.heap.size + 1 + 1 + 1] W2) dom_lt (good_net.step DN.out HS2.out)
      rw [← hN3, ← hE3] at hx
      have HN3 := Lib.hid hN3
      have HE3 := Lib.hid hE3
      clear hN3 hE3
      replace HBN : Hid (Box W2 (w.heap.size) #[.slice qa n.queue.length qc, .slice aa n.apart.length ac] 25) := Lib.hid (HBN.out.step HS2.out (by (first | omega | (simp; done) | (simp; omega))))
      have qN_0 := HBN.out.cell 0 rfl
      have qN_1 := HBN.out.cell 1 rfl
      replace HBM : Hid (Box W2 (w.heap.size + 1) #[.int .u8 (kd : Int), .int .u8 (mt : Int), .int .u8 (ma : Int), .int .u8 (mb : Int), .int .u8 (md : Int)] 52) := Lib.hid (HBM.out.step HS2.out (by (first | omega | (simp; done) | (simp; omega))))
      have qM_0 := HBM.out.cell 0 rfl
      have qM_1 := HBM.out.cell 1 rfl
      have qM_2 := HBM.out.cell 2 rfl
      have qM_3 := HBM.out.cell 3 rfl
      have qM_4 := HBM.out.cell 4 rfl
      go_wp2_with fail
      refine hx.mono ?_
      rintro e v3 ⟨qa3, qc3, aa3, ac3, rfl, hn3, hb3⟩
      clear hx
      clear qN_0 qN_1 qM_0 qM_1 qM_2 qM_3 qM_4
      have HN4 := Lib.hid (good_net.back hn3 (fun b hb => .inr (Nat.le_trans (Step.trans HS1.out HS2.out).size hb)) (fun b hb => Nat.lt_of_lt_of_le (HSL.out b hb) HS2.out.size))
      clear hn3
      have BVX := HBX.out.below hb3
      have qX_0 := BVX.cell 0 rfl
      have fX_0 := BVX.free 0
      have qX_1 := BVX.cell 1 rfl
      have fX_1 := BVX.free 1
      have BVY := HBY.out.below hb3
      have qY_0 := BVY.cell 0 rfl
      have fY_0 := BVY.free 0
      have qY_1 := BVY.cell 1 rfl
      have fY_1 := BVY.free 1
      have qY_2 := BVY.cell 2 rfl
      have fY_2 := BVY.free 2
      go_upto_region 18 with (fail)
      clear qX_0 fX_0 qX_1 fX_1 qY_0 fY_0 qY_1 fY_1 qY_2 fY_2
      refine wp_name ?_
      intro W3 hW3
      have HV3 : Hid (Step [w.heap.size + 1 + 1, w.heap.size + 1 + 1 + 1] v3 W3) := by
        rw [hW3]
        refine Lib.hid ?_
        repeat (first | (with_reducible exact (Step.refl [w.heap.size + 1 + 1, w.heap.size + 1 + 1 + 1] v3)) | (with_reducible refine Step.drew ?_) | (with_reducible refine Step.drewN ?_ _) | (with_reducible refine Step.alloc ?_ _) | ((with_reducible apply Step.setE); focus (first | (left; simp; done) | (right; simp; done) | (right; simp; omega) | (right; dsimp only; omega) | (right; omega))))
      have HS3 : Hid (Step [w.heap.size + 1 + 1, w.heap.size + 1 + 1 + 1] W2 W3) := Lib.hid ((Step.of_below hb3).trans HV3.out)
      replace HBX : Hid (Box W3 (w.heap.size + 1 + 1) #[.slice qa3 N3.queue.length qc3, .slice aa3 N3.apart.length ac3] 25) := by
        rw [hW3]
        refine Lib.hid ?_
        repeat (first | (with_reducible exact (HBX.out.below hb3)) | (with_reducible exact Box.newE _ _ _ _ (by first | rfl | (simp; done))) | (with_reducible refine Box.drew ?_) | (with_reducible refine Box.drewN ?_ _) | (with_reducible refine Box.alloc ?_ _) | (with_reducible apply Box.setE) | ((with_reducible apply Box.otherE); first | (exact (by omega)) | (exact (by simp)) | (exact (by simp; omega))) | (exact (rfl : Array.setIfInBounds _ _ _ = _)))
      replace HBY : Hid (Box W3 (w.heap.size + 1 + 1 + 1) #[.int .i64 0, .int .i64 0, .slice none 0 0] 28) := by
        rw [hW3]
        refine Lib.hid ?_
        repeat (first | (with_reducible exact (HBY.out.below hb3)) | (with_reducible exact Box.newE _ _ _ _ (by first | rfl | (simp; done))) | (with_reducible refine Box.drew ?_) | (with_reducible refine Box.drewN ?_ _) | (with_reducible refine Box.alloc ?_ _) | (with_reducible apply Box.setE) | ((with_reducible apply Box.otherE); first | (exact (by omega)) | (exact (by simp)) | (exact (by simp; omega))) | (exact (rfl : Array.setIfInBounds _ _ _ = _)))
      clear hW3
      clear hb3 BVX BVY
      have DR : Hid (RNet (Dom (fun b => F b ∨ w.heap.size ≤ b) [w.heap.size + 1 + 1, w.heap.size + 1 + 1 + 1] W3) W3 N3 [.slice qa3 N3.queue.length qc3, .slice aa3 N3.apart.length ac3]) := Lib.hid (good_net.step HN4.out HV3.out)
      have qX_0 := HBX.out.cell 0 rfl
      have fX_0 := HBX.out.free 0
      have qX_1 := HBX.out.cell 1 rfl
      have fX_1 := HBX.out.free 1
      have qY_0 := HBY.out.cell 0 rfl
      have fY_0 := HBY.out.free 0
      have qY_1 := HBY.out.cell 1 rfl
      have fY_1 := HBY.out.free 1
      have qY_2 := HBY.out.cell 2 rfl
      have fY_2 := HBY.out.free 2
      go_region
      go_wp2
      refine post_name ?_
      intro W4 hW4
      have HV4 : Hid (Step [w.heap.size + 1 + 1, w.heap.size + 1 + 1 + 1] W3 W4) := by
        rw [hW4]
        refine Lib.hid ?_
        repeat (first | (with_reducible exact (Step.refl [w.heap.size + 1 + 1, w.heap.size + 1 + 1 + 1] W3)) | (with_reducible refine Step.drew ?_) | (with_reducible refine Step.drewN ?_ _) | (with_reducible refine Step.alloc ?_ _) | ((with_reducible apply Step.setE); focus (first | (left; simp; done) | (right; simp; done) | (right; simp; omega) | (right; dsimp only; omega) | (right; omega))))
      have HS4 : Hid (Step [w.heap.size + 1 + 1, w.heap.size + 1 + 1 + 1] W3 W4) := Lib.hid HV4.out
      replace HBX : Hid (Box W4 (w.heap.size + 1 + 1) #[.slice qa3 N3.queue.length qc3, .slice aa3 N3.apart.length ac3] 25) := by
        rw [hW4]
        refine Lib.hid ?_
        repeat (first | (with_reducible exact HBX.out) | (with_reducible exact Box.newE _ _ _ _ (by first | rfl | (simp; done))) | (with_reducible refine Box.drew ?_) | (with_reducible refine Box.drewN ?_ _) | (with_reducible refine Box.alloc ?_ _) | (with_reducible apply Box.setE) | ((with_reducible apply Box.otherE); first | (exact (by omega)) | (exact (by simp)) | (exact (by simp; omega))) | (exact (rfl : Array.setIfInBounds _ _ _ = _)))
      replace HBY : Hid (Box W4 (w.heap.size + 1 + 1 + 1) #[.int .i64 0, .int .i64 0, .slice none 0 0] 28) := by
        rw [hW4]
        refine Lib.hid ?_
        repeat (first | (with_reducible exact HBY.out) | (with_reducible exact Box.newE _ _ _ _ (by first | rfl | (simp; done))) | (with_reducible refine Box.drew ?_) | (with_reducible refine Box.drewN ?_ _) | (with_reducible refine Box.alloc ?_ _) | (with_reducible apply Box.setE) | ((with_reducible apply Box.otherE); first | (exact (by omega)) | (exact (by simp)) | (exact (by simp; omega))) | (exact (rfl : Array.setIfInBounds _ _ _ = _)))
      clear hW4
      clear qX_0 fX_0 qX_1 fX_1 qY_0 fY_0 qY_1 fY_1 qY_2 fY_2
      have hKk : hapK m = 3 := by have h1 := HK.out; have h2 := HK6.out; omega
      have e1 : hapN n m = N3 := by rw [HN3.out]; unfold hapN; rw [hKk]; simp only []; rw [← HT.out]
      have e2 : hapE n m = E3 := by rw [HE3.out]; unfold hapE; rw [hKk]; simp only []; rw [← HT.out]
      have e3 : hapP n m = .nil := by unfold hapP; rw [hKk]; rfl
      rw [e1, e2, e3]
      have BX := HBX.out
      have BY := HBY.out
      exact bodyPost_ret (v := .tuple #[.agg #[.slice qa3 N3.queue.length qc3, .slice aa3 N3.apart.length ac3], .agg #[.int .i64 0, .int .i64 0, .slice none 0 0], .int .i64 E3]) (by simp [results, Try.results27, go_sem, BX.cell 0 rfl, BX.cell 1 rfl, BY.cell 0 rfl, BY.cell 1 rfl, BY.cell 2 rfl]) rfl ⟨qa3, qc3, aa3, ac3, none, 0, rfl, good_net.leave (good_net.step DR.out HS4.out) (Step.refl _ _), rpk_nil _ _, Step.to_below (Step.trans (Step.trans (Step.trans HS1.out HS2.out) HS3.out) HS4.out) HSS.out⟩
    · have hk : (kd : Int) % 6 = 4 := hk6
      go_upto_region 4 with (fail)
      go_quiet (fail)
      go_upto_region 15 with (fail)
      refine wp_name ?_
      intro W2 hW2
      have HV2 : Hid (Step [w.heap.size + 1 + 1, w.heap.size + 1 + 1 + 1] W1 W2) := by
        rw [hW2]
        refine Lib.hid ?_
        repeat (first | (with_reducible exact (Step.refl [w.heap.size + 1 + 1, w.heap.size + 1 + 1 + 1] W1)) | (with_reducible refine Step.drew ?_) | (with_reducible refine Step.drewN ?_ _) | (with_reducible refine Step.alloc ?_ _) | ((with_reducible apply Step.setE); focus (first | (left; simp; done) | (right; simp; done) | (right; simp; omega) | (right; dsimp only; omega) | (right; omega))))
      have HS2 : Hid (Step [w.heap.size + 1 + 1, w.heap.size + 1 + 1 + 1] W1 W2) := Lib.hid HV2.out
      replace HBX : Hid (Box W2 (w.heap.size + 1 + 1) #[.slice none 0 0, .slice none 0 0] 25) := by
        rw [hW2]
        refine Lib.hid ?_
        repeat (first | (with_reducible exact HBX.out) | (with_reducible exact Box.newE _ _ _ _ (by first | rfl | (simp; done))) | (with_reducible refine Box.drew ?_) | (with_reducible refine Box.drewN ?_ _) | (with_reducible refine Box.alloc ?_ _) | (with_reducible apply Box.setE) | ((with_reducible apply Box.otherE); first | (exact (by omega)) | (exact (by simp)) | (exact (by simp; omega))) | (exact (rfl : Array.setIfInBounds _ _ _ = _)))
      replace HBY : Hid (Box W2 (w.heap.size + 1 + 1 + 1) #[.int .i64 0, .int .i64 0, .slice none 0 0] 28) := by
        rw [hW2]
        refine Lib.hid ?_
        repeat (first | (with_reducible exact HBY.out) | (with_reducible exact Box.newE _ _ _ _ (by first | rfl | (simp; done))) | (with_reducible refine Box.drew ?_) | (with_reducible refine Box.drewN ?_ _) | (with_reducible refine Box.alloc ?_ _) | (with_reducible apply Box.setE) | ((with_reducible apply Box.otherE); first | (exact (by omega)) | (exact (by simp)) | (exact (by simp; omega))) | (exact (rfl : Array.setIfInBounds _ _ _ = _)))
      clear hW2
      clear qN_0 qN_1 qM_0 qM_1 qM_2 qM_3 qM_4
      have HK6 := Lib.hid hk6
      clear hk hk6
      obtain ⟨N3, hN3⟩ : ∃ x, x = cutN n ((ma : Int) % 24) ((mb : Int) % 24) true := ⟨_, rfl⟩
      obtain ⟨E3, hE3⟩ : ∃ x, x = cutE n ((ma : Int) % 24) ((mb : Int) % 24) := ⟨_, rfl⟩
      have hx := cut_any n ((ma : Int) % 24) ((mb : Int) % 24) true qa qc aa ac W2 (Dom (fun b => F b ∨ w.heap.size ≤ b) [w.heap.size + 1 + 1, w.heap.size + 1 + 1 + 1] W2) dom_lt (good_net.step DN.out HS2.out)
      rw [← hN3, ← hE3] at hx
      have HN3 := Lib.hid hN3
      have HE3 := Lib.hid hE3
      clear hN3 hE3
      replace HBN : Hid (Box W2 (w.heap.size) #[.slice qa n.queue.length qc, .slice aa n.apart.length ac] 25) := Lib.hid (HBN.out.step HS2.out (by (first | omega | (simp; done) | (simp; omega))))
      have qN_0 := HBN.out.cell 0 rfl
      have qN_1 := HBN.out.cell 1 rfl
      replace HBM : Hid (Box W2 (w.heap.size + 1) #[.int .u8 (kd : Int), .int .u8 (mt : Int), .int .u8 (ma : Int), .int .u8 (mb : Int), .int .u8 (md : Int)] 52) := Lib.hid (HBM.out.step HS2.out (by (first | omega | (simp; done) | (simp; omega))))
      have qM_0 := HBM.out.cell 0 rfl
      have qM_1 := HBM.out.cell 1 rfl
      have qM_2 := HBM.out.cell 2 rfl
      have qM_3 := HBM.out.cell 3 rfl
      have qM_4 := HBM.out.cell 4 rfl
      go_wp2_with fail
      refine hx.mono ?_
      rintro e v3 ⟨qa3, qc3, aa3, ac3, rfl, hn3, hb3⟩
      clear hx
      clear qN_0 qN_1 qM_0 qM_1 qM_2 qM_3 qM_4
      have HN4 := Lib.hid (good_net.back hn3 (fun b hb => .inr (Nat.le_trans (Step.trans HS1.out HS2.out).size hb)) (fun b hb => Nat.lt_of_lt_of_le (HSL.out b hb) HS2.out.size))
      clear hn3
      have BVX := HBX.out.below hb3
      have qX_0 := BVX.cell 0 rfl
      have fX_0 := BVX.free 0
      have qX_1 := BVX.cell 1 rfl
      have fX_1 := BVX.free 1
      have BVY := HBY.out.below hb3
      have qY_0 := BVY.cell 0 rfl
      have fY_0 := BVY.free 0
      have qY_1 := BVY.cell 1 rfl
      have fY_1 := BVY.free 1
      have qY_2 := BVY.cell 2 rfl
      have fY_2 := BVY.free 2
      go_upto_region 18 with (fail)
      clear qX_0 fX_0 qX_1 fX_1 qY_0 fY_0 qY_1 fY_1 qY_2 fY_2
      refine wp_name ?_
      intro W3 hW3
      have HV3 : Hid (Step [w.heap.size + 1 + 1, w.heap.size + 1 + 1 + 1] v3 W3) := by
        rw [hW3]
        refine Lib.hid ?_
        repeat (first | (with_reducible exact (Step.refl [w.heap.size + 1 + 1, w.heap.size + 1 + 1 + 1] v3)) | (with_reducible refine Step.drew ?_) | (with_reducible refine Step.drewN ?_ _) | (with_reducible refine Step.alloc ?_ _) | ((with_reducible apply Step.setE); focus (first | (left; simp; done) | (right; simp; done) | (right; simp; omega) | (right; dsimp only; omega) | (right; omega))))
      have HS3 : Hid (Step [w.heap.size + 1 + 1, w.heap.size + 1 + 1 + 1] W2 W3) := Lib.hid ((Step.of_below hb3).trans HV3.out)
      replace HBX : Hid (Box W3 (w.heap.size + 1 + 1) #[.slice qa3 N3.queue.length qc3, .slice aa3 N3.apart.length ac3] 25) := by
        rw [hW3]
        refine Lib.hid ?_
        repeat (first | (with_reducible exact (HBX.out.below hb3)) | (with_reducible exact Box.newE _ _ _ _ (by first | rfl | (simp; done))) | (with_reducible refine Box.drew ?_) | (with_reducible refine Box.drewN ?_ _) | (with_reducible refine Box.alloc ?_ _) | (with_reducible apply Box.setE) | ((with_reducible apply Box.otherE); first | (exact (by omega)) | (exact (by simp)) | (exact (by simp; omega))) | (exact (rfl : Array.setIfInBounds _ _ _ = _)))
      replace HBY : Hid (Box W3 (w.heap.size + 1 + 1 + 1) #[.int .i64 0, .int .i64 0, .slice none 0 0] 28) := by
        rw [hW3]
        refine Lib.hid ?_
        repeat (first | (with_reducible exact (HBY.out.below hb3)) | (with_reducible exact Box.newE _ _ _ _ (by first | rfl | (simp; done))) | (with_reducible refine Box.drew ?_) | (with_reducible refine Box.drewN ?_ _) | (with_reducible refine Box.alloc ?_ _) | (with_reducible apply Box.setE) | ((with_reducible apply Box.otherE); first | (exact (by omega)) | (exact (by simp)) | (exact (by simp; omega))) | (exact (rfl : Array.setIfInBounds _ _ _ = _)))
      clear hW3
      clear hb3 BVX BVY
      have DR : Hid (RNet (Dom (fun b => F b ∨ w.heap.size ≤ b) [w.heap.size + 1 + 1, w.heap.size + 1 + 1 + 1] W3) W3 N3 [.slice qa3 N3.queue.length qc3, .slice aa3 N3.apart.length ac3]) := Lib.hid (good_net.step HN4.out HV3.out)
      have qX_0 := HBX.out.cell 0 rfl
      have fX_0 := HBX.out.free 0
      have qX_1 := HBX.out.cell 1 rfl
      have fX_1 := HBX.out.free 1
      have qY_0 := HBY.out.cell 0 rfl
      have fY_0 := HBY.out.free 0
      have qY_1 := HBY.out.cell 1 rfl
      have fY_1 := HBY.out.free 1
      have qY_2 := HBY.out.cell 2 rfl
      have fY_2 := HBY.out.free 2
      go_region
      go_wp2
      refine post_name ?_
      intro W4 hW4
      have HV4 : Hid (Step [w.heap.size + 1 + 1, w.heap.size + 1 + 1 + 1] W3 W4) := by
        rw [hW4]
        refine Lib.hid ?_
        repeat (first | (with_reducible exact (Step.refl [w.heap.size + 1 + 1, w.heap.size + 1 + 1 + 1] W3)) | (with_reducible refine Step.drew ?_) | (with_reducible refine Step.drewN ?_ _) | (with_reducible refine Step.alloc ?_ _) | ((with_reducible apply Step.setE); focus (first | (left; simp; done) | (right; simp; done) | (right; simp; omega) | (right; dsimp only; omega) | (right; omega))))
      have HS4 : Hid (Step [w.heap.size + 1 + 1, w.heap.size + 1 + 1 + 1] W3 W4) := Lib.hid HV4.out
      replace HBX : Hid (Box W4 (w.heap.size + 1 + 1) #[.slice qa3 N3.queue.length qc3, .slice aa3 N3.apart.length ac3] 25) := by
        rw [hW4]
        refine Lib.hid ?_
        repeat (first | (with_reducible exact HBX.out) | (with_reducible exact Box.newE _ _ _ _ (by first | rfl | (simp; done))) | (with_reducible refine Box.drew ?_) | (with_reducible refine Box.drewN ?_ _) | (with_reducible refine Box.alloc ?_ _) | (with_reducible apply Box.setE) | ((with_reducible apply Box.otherE); first | (exact (by omega)) | (exact (by simp)) | (exact (by simp; omega))) | (exact (rfl : Array.setIfInBounds _ _ _ = _)))
      replace HBY : Hid (Box W4 (w.heap.size + 1 + 1 + 1) #[.int .i64 0, .int .i64 0, .slice none 0 0] 28) := by
        rw [hW4]
        refine Lib.hid ?_
        repeat (first | (with_reducible exact HBY.out) | (with_reducible exact Box.newE _ _ _ _ (by first | rfl | (simp; done))) | (with_reducible refine Box.drew ?_) | (with_reducible refine Box.drewN ?_ _) | (with_reducible refine Box.alloc ?_ _) | (with_reducible apply Box.setE) | ((with_reducible apply Box.otherE); first | (exact (by omega)) | (exact (by simp)) | (exact (by simp; omega))) | (exact (rfl : Array.setIfInBounds _ _ _ = _)))
      clear hW4
      clear qX_0 fX_0 qX_1 fX_1 qY_0 fY_0 qY_1 fY_1 qY_2 fY_2
      have hKk : hapK m = 4 := by have h1 := HK.out; have h2 := HK6.out; omega
      have e1 : hapN n m = N3 := by rw [HN3.out]; unfold hapN; rw [hKk]; simp only []; rw [← HA.out, ← HB.out]
      have e2 : hapE n m = E3 := by rw [HE3.out]; unfold hapE; rw [hKk]; simp only []; rw [← HA.out, ← HB.out]
      have e3 : hapP n m = .nil := by unfold hapP; rw [hKk]; rfl
      rw [e1, e2, e3]
      have BX := HBX.out
      have BY := HBY.out
      exact bodyPost_ret (v := .tuple #[.agg #[.slice qa3 N3.queue.length qc3, .slice aa3 N3.apart.length ac3], .agg #[.int .i64 0, .int .i64 0, .slice none 0 0], .int .i64 E3]) (by simp [results, Try.results27, go_sem, BX.cell 0 rfl, BX.cell 1 rfl, BY.cell 0 rfl, BY.cell 1 rfl, BY.cell 2 rfl]) rfl ⟨qa3, qc3, aa3, ac3, none, 0, rfl, good_net.leave (good_net.step DR.out HS4.out) (Step.refl _ _), rpk_nil _ _, Step.to_below (Step.trans (Step.trans (Step.trans HS1.out HS2.out) HS3.out) HS4.out) HSS.out⟩
    · have hk : (kd : Int) % 6 = 5 := hk6
      go_upto_region 4 with (fail)
      go_quiet (fail)
      go_upto_region 17 with (fail)
      refine wp_name ?_
      intro W2 hW2
      have HV2 : Hid (Step [w.heap.size + 1 + 1, w.heap.size + 1 + 1 + 1] W1 W2) := by
        rw [hW2]
        refine Lib.hid ?_
        repeat (first | (with_reducible exact (Step.refl [w.heap.size + 1 + 1, w.heap.size + 1 + 1 + 1] W1)) | (with_reducible refine Step.drew ?_) | (with_reducible refine Step.drewN ?_ _) | (with_reducible refine Step.alloc ?_ _) | ((with_reducible apply Step.setE); focus (first | (left; simp; done) | (right; simp; done) | (right; simp; omega) | (right; dsimp only; omega) | (right; omega))))
      have HS2 : Hid (Step [w.heap.size + 1 + 1, w.heap.size + 1 + 1 + 1] W1 W2) := Lib.hid HV2.out
      replace HBX : Hid (Box W2 (w.heap.size + 1 + 1) #[.slice none 0 0, .slice none 0 0] 25) := by
        rw [hW2]
        refine Lib.hid ?_
        repeat (first | (with_reducible exact HBX.out) | (with_reducible exact Box.newE _ _ _ _ (by first | rfl | (simp; done))) | (with_reducible refine Box.drew ?_) | (with_reducible refine Box.drewN ?_ _) | (with_reducible refine Box.alloc ?_ _) | (with_reducible apply Box.setE) | ((with_reducible apply Box.otherE); first | (exact (by omega)) | (exact (by simp)) | (exact (by simp; omega))) | (exact (rfl : Array.setIfInBounds _ _ _ = _)))
      replace HBY : Hid (Box W2 (w.heap.size + 1 + 1 + 1) #[.int .i64 0, .int .i64 0, .slice none 0 0] 28) := by
        rw [hW2]
        refine Lib.hid ?_
        repeat (first | (with_reducible exact HBY.out) | (with_reducible exact Box.newE _ _ _ _ (by first | rfl | (simp; done))) | (with_reducible refine Box.drew ?_) | (with_reducible refine Box.drewN ?_ _) | (with_reducible refine Box.alloc ?_ _) | (with_reducible apply Box.setE) | ((with_reducible apply Box.otherE); first | (exact (by omega)) | (exact (by simp)) | (exact (by simp; omega))) | (exact (rfl : Array.setIfInBounds _ _ _ = _)))
      clear hW2
      clear qN_0 qN_1 qM_0 qM_1 qM_2 qM_3 qM_4
      have HK6 := Lib.hid hk6
      clear hk hk6
      obtain ⟨N3, hN3⟩ : ∃ x, x = cutN n ((ma : Int) % 24) ((mb : Int) % 24) false := ⟨_, rfl⟩
      obtain ⟨E3, hE3⟩ : ∃ x, x = cutE n ((ma : Int) % 24) ((mb : Int) % 24) := ⟨_, rfl⟩
      have hx := cut_any n ((ma : Int) % 24) ((mb : Int) % 24) false qa qc aa ac W2 (Dom (fun b => F b ∨ w.heap.size ≤ b) [w.heap.size + 1 + 1, w.heap.size + 1 + 1 + 1] W2) dom_lt (good_net.step DN.out HS2.out)
      rw [← hN3, ← hE3] at hx
      have HN3 := Lib.hid hN3
      have HE3 := Lib.hid hE3
      clear hN3 hE3
      replace HBN : Hid (Box W2 (w.heap.size) #[.slice qa n.queue.length qc, .slice aa n.apart.length ac] 25) := Lib.hid (HBN.out.step HS2.out (by (first | omega | (simp; done) | (simp; omega))))
      have qN_0 := HBN.out.cell 0 rfl
      have qN_1 := HBN.out.cell 1 rfl
      replace HBM : Hid (Box W2 (w.heap.size + 1) #[.int .u8 (kd : Int), .int .u8 (mt : Int), .int .u8 (ma : Int), .int .u8 (mb : Int), .int .u8 (md : Int)] 52) := Lib.hid (HBM.out.step HS2.out (by (first | omega | (simp; done) | (simp; omega))))
      have qM_0 := HBM.out.cell 0 rfl
      have qM_1 := HBM.out.cell 1 rfl
      have qM_2 := HBM.out.cell 2 rfl
      have qM_3 := HBM.out.cell 3 rfl
      have qM_4 := HBM.out.cell 4 rfl
      go_wp2_with fail
      refine hx.mono ?_
      rintro e v3 ⟨qa3, qc3, aa3, ac3, rfl, hn3, hb3⟩
      clear hx
      clear qN_0 qN_1 qM_0 qM_1 qM_2 qM_3 qM_4
      have HN4 := Lib.hid (good_net.back hn3 (fun b hb => .inr (Nat.le_trans (Step.trans HS1.out HS2.out).size hb)) (fun b hb => Nat.lt_of_lt_of_le (HSL.out b hb) HS2.out.size))
      clear hn3
      have BVX := HBX.out.below hb3
      have qX_0 := BVX.cell 0 rfl
      have fX_0 := BVX.free 0
      have qX_1 := BVX.cell 1 rfl
      have fX_1 := BVX.free 1
      have BVY := HBY.out.below hb3
      have qY_0 := BVY.cell 0 rfl
      have fY_0 := BVY.free 0
      have qY_1 := BVY.cell 1 rfl
      have fY_1 := BVY.free 1
      have qY_2 := BVY.cell 2 rfl
      have fY_2 := BVY.free 2
      go_upto_region 18 with (fail)
      clear qX_0 fX_0 qX_1 fX_1 qY_0 fY_0 qY_1 fY_1 qY_2 fY_2
      refine wp_name ?_
      intro W3 hW3
      have HV3 : Hid (Step [w.heap.size + 1 + 1, w.heap.size + 1 + 1 + 1] v3 W3) := by
        rw [hW3]
        refine Lib.hid ?_
        repeat (first | (with_reducible exact (Step.refl [w.heap.size + 1 + 1, w.heap.size + 1 + 1 + 1] v3)) | (with_reducible refine Step.drew ?_) | (with_reducible refine Step.drewN ?_ _) | (with_reducible refine Step.alloc ?_ _) | ((with_reducible apply Step.setE); focus (first | (left; simp; done) | (right; simp; done) | (right; simp; omega) | (right; dsimp only; omega) | (right; omega))))
      have HS3 : Hid (Step [w.heap.size + 1 + 1, w.heap.size + 1 + 1 + 1] W2 W3) := Lib.hid ((Step.of_below hb3).trans HV3.out)
      replace HBX : Hid (Box W3 (w.heap.size + 1 + 1) #[.slice qa3 N3.queue.length qc3, .slice aa3 N3.apart.length ac3] 25) := by
        rw [hW3]
        refine Lib.hid ?_
        repeat (first | (with_reducible exact (HBX.out.below hb3)) | (with_reducible exact Box.newE _ _ _ _ (by first | rfl | (simp; done))) | (with_reducible refine Box.drew ?_) | (with_reducible refine Box.drewN ?_ _) | (with_reducible refine Box.alloc ?_ _) | (with_reducible apply Box.setE) | ((with_reducible apply Box.otherE); first | (exact (by omega)) | (exact (by simp)) | (exact (by simp; omega))) | (exact (rfl : Array.setIfInBounds _ _ _ = _)))
      replace HBY : Hid (Box W3 (w.heap.size + 1 + 1 + 1) #[.int .i64 0, .int .i64 0, .slice none 0 0] 28) := by
        rw [hW3]
        refine Lib.hid ?_
        repeat (first | (with_reducible exact (HBY.out.below hb3)) | (with_reducible exact Box.newE _ _ _ _ (by first | rfl | (simp; done))) | (with_reducible refine Box.drew ?_) | (with_reducible refine Box.drewN ?_ _) | (with_reducible refine Box.alloc ?_ _) | (with_reducible apply Box.setE) | ((with_reducible apply Box.otherE); first | (exact (by omega)) | (exact (by simp)) | (exact (by simp; omega))) | (exact (rfl : Array.setIfInBounds _ _ _ = _)))
      clear hW3
      clear hb3 BVX BVY
      have DR : Hid (RNet (Dom (fun b => F b ∨ w.heap.size ≤ b) [w.heap.size + 1 + 1, w.heap.size + 1 + 1 + 1] W3) W3 N3 [.slice qa3 N3.queue.length qc3, .slice aa3 N3.apart.length ac3]) := Lib.hid (good_net.step HN4.out HV3.out)
      have qX_0 := HBX.out.cell 0 rfl
      have fX_0 := HBX.out.free 0
      have qX_1 := HBX.out.cell 1 rfl
      have fX_1 := HBX.out.free 1
      have qY_0 := HBY.out.cell 0 rfl
      have fY_0 := HBY.out.free 0
      have qY_1 := HBY.out.cell 1 rfl
      have fY_1 := HBY.out.free 1
      have qY_2 := HBY.out.cell 2 rfl
      have fY_2 := HBY.out.free 2
      go_region
      go_wp2
      refine post_name ?_
      intro W4 hW4
      have HV4 : Hid (Step [w.heap.size + 1 + 1, w.heap.size + 1 + 1 + 1] W3 W4) := by
        rw [hW4]
        refine Lib.hid ?_
        repeat (first | (with_reducible exact (Step.refl [w.heap.size + 1 + 1, w.heap.size + 1 + 1 + 1] W3)) | (with_reducible refine Step.drew ?_) | (with_reducible refine Step.drewN ?_ _) | (with_reducible refine Step.alloc ?_ _) | ((with_reducible apply Step.setE); focus (first | (left; simp; done) | (right; simp; done) | (right; simp; omega) | (right; dsimp only; omega) | (right; omega))))
      have HS4 : Hid (Step [w.heap.size + 1 + 1, w.heap.size + 1 + 1 + 1] W3 W4) := Lib.hid HV4.out
      replace HBX : Hid (Box W4 (w.heap.size + 1 + 1) #[.slice qa3 N3.queue.length qc3, .slice aa3 N3.apart.length ac3] 25) := by
        rw [hW4]
        refine Lib.hid ?_
        repeat (first | (with_reducible exact HBX.out) | (with_reducible exact Box.newE _ _ _ _ (by first | rfl | (simp; done))) | (with_reducible refine Box.drew ?_) | (with_reducible refine Box.drewN ?_ _) | (with_reducible refine Box.alloc ?_ _) | (with_reducible apply Box.setE) | ((with_reducible apply Box.otherE); first | (exact (by omega)) | (exact (by simp)) | (exact (by simp; omega))) | (exact (rfl : Array.setIfInBounds _ _ _ = _)))
      replace HBY : Hid (Box W4 (w.heap.size + 1 + 1 + 1) #[.int .i64 0, .int .i64 0, .slice none 0 0] 28) := by
        rw [hW4]
        refine Lib.hid ?_
        repeat (first | (with_reducible exact HBY.out) | (with_reducible exact Box.newE _ _ _ _ (by first | rfl | (simp; done))) | (with_reducible refine Box.drew ?_) | (with_reducible refine Box.drewN ?_ _) | (with_reducible refine Box.alloc ?_ _) | (with_reducible apply Box.setE) | ((with_reducible apply Box.otherE); first | (exact (by omega)) | (exact (by simp)) | (exact (by simp; omega))) | (exact (rfl : Array.setIfInBounds _ _ _ = _)))
      clear hW4
      clear qX_0 fX_0 qX_1 fX_1 qY_0 fY_0 qY_1 fY_1 qY_2 fY_2
      have hKk : hapK m = 5 := by have h1 := HK.out; have h2 := HK6.out; omega
      have e1 : hapN n m = N3 := by rw [HN3.out]; unfold hapN; rw [hKk]; simp only []; rw [← HA.out, ← HB.out]
      have e2 : hapE n m = E3 := by rw [HE3.out]; unfold hapE; rw [hKk]; simp only []; rw [← HA.out, ← HB.out]
      have e3 : hapP n m = .nil := by unfold hapP; rw [hKk]; rfl
      rw [e1, e2, e3]
      have BX := HBX.out
      have BY := HBY.out
      exact bodyPost_ret (v := .tuple #[.agg #[.slice qa3 N3.queue.length qc3, .slice aa3 N3.apart.length ac3], .agg #[.int .i64 0, .int .i64 0, .slice none 0 0], .int .i64 E3]) (by simp [results, Try.results27, go_sem, BX.cell 0 rfl, BX.cell 1 rfl, BY.cell 0 rfl, BY.cell 1 rfl, BY.cell 2 rfl]) rfl ⟨qa3, qc3, aa3, ac3, none, 0, rfl, good_net.leave (good_net.step DR.out HS4.out) (Step.refl _ _), rpk_nil _ _, Step.to_below (Step.trans (Step.trans (Step.trans HS1.out HS2.out) HS3.out) HS4.out) HSS.out⟩
end Go.Proofs.Ytmlhpchabnajkaa
