/- NetworkLost -/
import Derived.Test.YtmlhpchabnajkaaNet22
import Derived.Test.YtmlhpchabnajkaaNetLaw
namespace Go.Proofs.Ytmlhpchabnajkaa
set_option linter.unusedSimpArgs false
set_option linter.unusedVariables false
open Go.RowKit
attribute [local go_sem ↓] Go.wp_at_zero Go.wp_at_succ
attribute [local go_sem] gquiet gquietAt sameUpon growUpon leB_true
set_option maxRecDepth 100000 in
set_option maxHeartbeats 9000000 in
theorem law8_any (n : NetM) (at_ : Int) (hat : (Lit.int .u64 at_).wf = true) (qa : Option Addr) (qc : Nat) (aa : Option Addr) (ac : Nat) (w : World) (hr : RNet (Now w) w n [.slice qa n.queue.length qc, .slice aa n.apart.length ac]) :
    Calls Try.prog 8 #[.agg #[.slice qa n.queue.length qc, .slice aa n.apart.length ac], .int .u64 at_] w (Gives (.bool true) w) := by
  have HR := Lib.hid hr
  have l1 : n.queue.length ≤ 140737488351232 := by obtain ⟨_, _, _, _, e, _, h, _⟩ := hr; cases e; exact h
  have l2 : n.apart.length ≤ 140737488351232 := by obtain ⟨_, _, _, _, e, _, _, _, _, h, _⟩ := hr; cases e; exact h
  have hat0 : 0 ≤ at_ ∧ at_ ≤ 18446744073709551615 := by simpa [Lit.wf, IntKind.min, IntKind.max, IntKind.signed, IntKind.bits] using hat
  obtain ⟨at0, at1⟩ := hat0
  clear hr hat
  unfold Gives
  go_enter Try.func8, Try.ntmps8
  go_upto_region 1 with (fail)
  refine wp_name ?_
  intro W1 hW1
  have HV1 : Hid (Step [] w W1) := by
    rw [hW1]
    refine Lib.hid ?_
    repeat (first | (with_reducible exact (Step.refl [] w)) | (with_reducible refine Step.drew ?_) | (with_reducible refine Step.drewN ?_ _) | (with_reducible refine Step.alloc ?_ _) | ((with_reducible apply Step.setE); focus (first | (left; simp; done) | (right; simp; done) | (right; simp; omega) | (right; dsimp only; omega) | (right; omega))))
  have HS1 : Hid (Step [] w W1) := Lib.hid HV1.out
  have HBN : Hid (Box W1 (w.heap.size) #[.slice qa n.queue.length qc, .slice aa n.apart.length ac] 25) := by
    rw [hW1]
    refine Lib.hid ?_
    repeat (first | (with_reducible exact Box.newE _ _ _ _ (by first | rfl | (simp; done))) | (with_reducible refine Box.drew ?_) | (with_reducible refine Box.drewN ?_ _) | (with_reducible refine Box.alloc ?_ _) | (with_reducible apply Box.setE) | ((with_reducible apply Box.otherE); first | (exact (by omega)) | (exact (by simp)) | (exact (by simp; omega))) | (exact (rfl : Array.setIfInBounds _ _ _ = _)))
  clear hW1
  have DN : Hid (RNet (Dom (fun _ => True) [] W1) W1 n [.slice qa n.queue.length qc, .slice aa n.apart.length ac]) := Lib.hid (good_net.enterT HR.out HS1.out (noS _))
  have hx := sane_any W1
  go_wp2_with fail
  refine hx.mono ?_
  rintro e v ⟨rfl, hb⟩
  clear hx
  go_upto_region 3 with (fail)
  refine wp_name ?_
  intro W2 hW2
  have HV2 : Hid (Step [] v W2) := by
    rw [hW2]
    refine Lib.hid ?_
    repeat (first | (with_reducible exact (Step.refl [] v)) | (with_reducible refine Step.drew ?_) | (with_reducible refine Step.drewN ?_ _) | (with_reducible refine Step.alloc ?_ _) | ((with_reducible apply Step.setE); focus (first | (left; simp; done) | (right; simp; done) | (right; simp; omega) | (right; dsimp only; omega) | (right; omega))))
  have HS2 : Hid (Step [] W1 W2) := Lib.hid ((Step.of_below hb).trans HV2.out)
  clear hW2
  clear hb
  obtain ⟨bf, hbf⟩ : ∃ b, b = fewB n := ⟨_, rfl⟩
  have hx := few_any n qa qc aa ac W2 l1 l2
  rw [← hbf] at hx
  have HBF := Lib.hid hbf
  clear hbf
  replace HBN : Hid (Box W2 (w.heap.size) #[.slice qa n.queue.length qc, .slice aa n.apart.length ac] 25) := Lib.hid (HBN.out.step HS2.out (by (first | omega | (simp; done) | (simp; omega))))
  have qN_0 := HBN.out.cell 0 rfl
  have qN_1 := HBN.out.cell 1 rfl
  go_wp2_with fail
  refine hx.mono ?_
  rintro e v ⟨rfl, hb⟩
  clear hx
  clear qN_0 qN_1
  cases bf
  · go_wp2
    go_ret
    exact ⟨rfl, ((Step.to_below (HS1.out.trans HS2.out) (noS w)).trans (hb.mono (HS1.out.trans HS2.out).size))⟩
  · obtain ⟨c0, hc0⟩ : ∃ c, c = chk n := ⟨_, rfl⟩
    have HC0 := Lib.hid hc0
    have hx := check_any n qa qc aa ac v (good_net.now_ (good_net.step DN.out (HS2.out.trans (Step.of_below hb))))
    rw [← hc0] at hx
    clear hc0
    have BN := HBN.out.below hb
    have qN_0 := BN.cell 0 rfl
    have qN_1 := BN.cell 1 rfl
    go_wp2_with fail
    refine hx.mono ?_
    rintro e v3 ⟨rfl, hb3⟩
    clear hx
    clear BN qN_0 qN_1
    have hb4 : Below W2.heap.size W2 v3 := hb.trans (hb3.mono hb.size)
    clear hb hb3
    by_cases hc : c0 = 0
    · subst hc
      by_cases h0 : 0 < n.queue.length
      · have BN := HBN.out.below hb4
        have qN_0 := BN.cell 0 rfl
        have qN_1 := BN.cell 1 rfl
        have h0' : n.queue.length ≠ 0 := by omega
        have h0z : (n.queue.length : Int) ≠ 0 := by omega
        have h0b : ((n.queue.length : Int) == 0) = false := by simpa using h0z
        obtain ⟨i, hi⟩ : ∃ i : Nat, at_ % (n.queue.length : Int) = (i : Int) := ⟨(at_ % (n.queue.length : Int)).toNat, (Int.toNat_of_nonneg (Int.emod_nonneg _ h0z)).symm⟩
        have li : i < n.queue.length := by have := Int.emod_lt_of_pos at_ (show (0 : Int) < (n.queue.length : Int) by omega); omega
        have wi : wrap64 (i : Int) = (i : Int) := IntWalk.wrap64_in _ (by omega)
        go_upto_region 6 with (fail)
        clear BN qN_0 qN_1
        refine wp_name ?_
        intro W3 hW3
        have HV3 : Hid (Step [] v3 W3) := by
          rw [hW3]
          refine Lib.hid ?_
          repeat (first | (with_reducible exact (Step.refl [] v3)) | (with_reducible refine Step.drew ?_) | (with_reducible refine Step.drewN ?_ _) | (with_reducible refine Step.alloc ?_ _) | ((with_reducible apply Step.setE); focus (first | (left; simp; done) | (right; simp; done) | (right; simp; omega) | (right; dsimp only; omega) | (right; omega))))
        have HS3 : Hid (Step [] W2 W3) := Lib.hid ((Step.of_below hb4).trans HV3.out)
        clear hW3
        clear hb4 hi wi h0b h0z h0'
        obtain ⟨z1, z2, z3, z4, z5, z6⟩ := lost_plain n i li HC0.out.symm HBF.out.symm
        obtain ⟨_, _, _, _, e, _, _, rq, _, _, _⟩ := (good_net.step DN.out (HS2.out.trans HS3.out))
        cases e
        obtain ⟨qb, qo, rfl⟩ := rq.some_of h0
        obtain ⟨ba, oa, cp, e, hbp, hrp, hcp⟩ := rq i li
        cases e
        obtain ⟨da, dc, rfl, hrp'⟩ := hrp
        have DP : Hid (RPk (Dom (fun _ => True) [] W3) W3 n.queue[i] [.int .i64 n.queue[i].src, .int .i64 n.queue[i].dst, .slice da n.queue[i].data.length dc]) := Lib.hid ⟨da, dc, rfl, hrp'⟩
        have g0 : W3.cell? ⟨qb, qo + i * 3, none⟩ = some (.int .i64 n.queue[i].src) := hcp 0 _ rfl
        have g1 : W3.cell? ⟨qb, qo + i * 3 + 1, none⟩ = some (.int .i64 n.queue[i].dst) := hcp 1 _ rfl
        have g2 : W3.cell? ⟨qb, qo + i * 3 + 2, none⟩ = some (.slice da n.queue[i].data.length dc) := hcp 2 _ rfl
        obtain ⟨p, hp⟩ : ∃ p, p = n.queue[i] := ⟨_, rfl⟩
        rw [← hp] at DP g0 g1 g2 z4 z5
        have G0 := Lib.hid g0
        have G1 := Lib.hid g1
        have G2 := Lib.hid g2
        clear g0 g1 g2 hcp hrp' hbp rq hp
        obtain ⟨A5, hA5⟩ : ∃ x, x = loseN n i := ⟨_, rfl⟩
        obtain ⟨C5, hC5⟩ : ∃ x, x = repN n i := ⟨_, rfl⟩
        obtain ⟨P5, hP5⟩ : ∃ x, x = delP n i := ⟨_, rfl⟩
        rw [← hA5] at z4 z5
        rw [← hC5] at z3 z5 z6
        obtain ⟨X5, hX5⟩ : ∃ x, x = sendN A5 p := ⟨_, rfl⟩
        rw [← hX5] at z5
        have Z1 := Lib.hid z1
        have Z2 := Lib.hid z2
        have Z3 := Lib.hid z3
        have Z4 := Lib.hid z4
        have Z5 := Lib.hid z5
        have Z6 := Lib.hid z6
        clear z1 z2 z3 z4 z5 z6
        have HA5 := Lib.hid hA5
        clear hA5
        have HC5 := Lib.hid hC5
        clear hC5
        have HP5 := Lib.hid hP5
        clear hP5
        have HX5 := Lib.hid hX5
        clear hX5
        have hx := deliver_any n i (some ⟨qb, qo, none⟩) qc aa ac W3 (Dom (fun _ => True) [] W3) dom_lt (good_net.step DN.out (HS2.out.trans HS3.out))
        rw [Z1.out, ← HA5.out, ← HP5.out] at hx
        replace HBN : Hid (Box W3 (w.heap.size) #[.slice (some ⟨qb, qo, none⟩) n.queue.length qc, .slice aa n.apart.length ac] 25) := Lib.hid (HBN.out.step HS3.out (by (first | omega | (simp; done) | (simp; omega))))
        have qN_0 := HBN.out.cell 0 rfl
        have qN_1 := HBN.out.cell 1 rfl
        go_wp2_with fail
        refine hx.mono ?_
        rintro e v5 ⟨da5, dc5, qa5, qc5, aa5, ac5, rfl, hpk, hn, hb⟩
        clear hx
        clear qN_0 qN_1
        clear hpk
        have HNB := Lib.hid (good_net.back hn (fun _ _ => trivial) (noL _))
        clear hn
        go_upto_region 7 with (fail)
        refine wp_name ?_
        intro W4 hW4
        have HV4 : Hid (Step [] v5 W4) := by
          rw [hW4]
          refine Lib.hid ?_
          repeat (first | (with_reducible exact (Step.refl [] v5)) | (with_reducible refine Step.drew ?_) | (with_reducible refine Step.drewN ?_ _) | (with_reducible refine Step.alloc ?_ _) | ((with_reducible apply Step.setE); focus (first | (left; simp; done) | (right; simp; done) | (right; simp; omega) | (right; dsimp only; omega) | (right; omega))))
        have HS4 : Hid (Step [] W3 W4) := Lib.hid ((Step.of_below hb).trans HV4.out)
        have HBVP : Hid (Box W4 (v5.heap.size) #[.int .i64 P5.src, .int .i64 P5.dst, .slice da5 P5.data.length dc5] 28) := by
          rw [hW4]
          refine Lib.hid ?_
          repeat (first | (with_reducible exact Box.newE _ _ _ _ (by first | rfl | (simp; done))) | (with_reducible refine Box.drew ?_) | (with_reducible refine Box.drewN ?_ _) | (with_reducible refine Box.alloc ?_ _) | (with_reducible apply Box.setE) | ((with_reducible apply Box.otherE); first | (exact (by omega)) | (exact (by simp)) | (exact (by simp; omega))) | (exact (rfl : Array.setIfInBounds _ _ _ = _)))
        have HBVA : Hid (Box W4 (v5.heap.size + 1) #[.slice qa5 A5.queue.length qc5, .slice aa5 A5.apart.length ac5] 25) := by
          rw [hW4]
          refine Lib.hid ?_
          repeat (first | (with_reducible exact Box.newE _ _ _ _ (by first | rfl | (simp; done))) | (with_reducible refine Box.drew ?_) | (with_reducible refine Box.drewN ?_ _) | (with_reducible refine Box.alloc ?_ _) | (with_reducible apply Box.setE) | ((with_reducible apply Box.otherE); first | (exact (by omega)) | (exact (by simp)) | (exact (by simp; omega))) | (exact (rfl : Array.setIfInBounds _ _ _ = _)))
        clear hW4
        have DA : Hid (RNet (Dom (fun _ => True) [] W4) W4 A5 [.slice qa5 A5.queue.length qc5, .slice aa5 A5.apart.length ac5]) := Lib.hid (good_net.step HNB.out HV4.out)
        clear HNB hb
        have hx := lose_any n i (some ⟨qb, qo, none⟩) qc aa ac W4 (Dom (fun _ => True) [] W4) dom_lt (good_net.step DN.out ((HS2.out.trans HS3.out).trans HS4.out))
        rw [Z1.out, ← HA5.out] at hx
        replace HBN : Hid (Box W4 (w.heap.size) #[.slice (some ⟨qb, qo, none⟩) n.queue.length qc, .slice aa n.apart.length ac] 25) := Lib.hid (HBN.out.step HS4.out (by (first | omega | (simp; done) | (simp; omega))))
        have qN_0 := HBN.out.cell 0 rfl
        have qN_1 := HBN.out.cell 1 rfl
        go_wp2_with fail
        refine hx.mono ?_
        rintro e v6 ⟨qa6, qc6, aa6, ac6, rfl, hn, hb⟩
        clear hx
        clear qN_0 qN_1
        have HNB := Lib.hid (good_net.back hn (fun _ _ => trivial) (noL _))
        clear hn
        go_upto_region 8 with (fail)
        refine wp_name ?_
        intro W5 hW5
        have HV5 : Hid (Step [] v6 W5) := by
          rw [hW5]
          refine Lib.hid ?_
          repeat (first | (with_reducible exact (Step.refl [] v6)) | (with_reducible refine Step.drew ?_) | (with_reducible refine Step.drewN ?_ _) | (with_reducible refine Step.alloc ?_ _) | ((with_reducible apply Step.setE); focus (first | (left; simp; done) | (right; simp; done) | (right; simp; omega) | (right; dsimp only; omega) | (right; omega))))
        have HS5 : Hid (Step [] W4 W5) := Lib.hid ((Step.of_below hb).trans HV5.out)
        have HBVB : Hid (Box W5 (v6.heap.size) #[.slice qa6 A5.queue.length qc6, .slice aa6 A5.apart.length ac6] 25) := by
          rw [hW5]
          refine Lib.hid ?_
          repeat (first | (with_reducible exact Box.newE _ _ _ _ (by first | rfl | (simp; done))) | (with_reducible refine Box.drew ?_) | (with_reducible refine Box.drewN ?_ _) | (with_reducible refine Box.alloc ?_ _) | (with_reducible apply Box.setE) | ((with_reducible apply Box.otherE); first | (exact (by omega)) | (exact (by simp)) | (exact (by simp; omega))) | (exact (rfl : Array.setIfInBounds _ _ _ = _)))
        clear hW5
        have DB : Hid (RNet (Dom (fun _ => True) [] W5) W5 A5 [.slice qa6 A5.queue.length qc6, .slice aa6 A5.apart.length ac6]) := Lib.hid (good_net.step HNB.out HV5.out)
        clear HNB hb
        have hx := repeat_any n i (some ⟨qb, qo, none⟩) qc aa ac W5 (Dom (fun _ => True) [] W5) dom_lt (good_net.step DN.out (((HS2.out.trans HS3.out).trans HS4.out).trans HS5.out))
        rw [Z2.out, ← HC5.out] at hx
        replace HBN : Hid (Box W5 (w.heap.size) #[.slice (some ⟨qb, qo, none⟩) n.queue.length qc, .slice aa n.apart.length ac] 25) := Lib.hid (HBN.out.step HS5.out (by (first | omega | (simp; done) | (simp; omega))))
        have qN_0 := HBN.out.cell 0 rfl
        have qN_1 := HBN.out.cell 1 rfl
        go_wp2_with fail
        refine hx.mono ?_
        rintro e v7 ⟨qa7, qc7, aa7, ac7, rfl, hn, hb⟩
        clear hx
        clear qN_0 qN_1
        have HNB := Lib.hid (good_net.back hn (fun _ _ => trivial) (noL _))
        clear hn
        go_upto_region 9 with (fail)
        refine wp_name ?_
        intro W6 hW6
        have HV6 : Hid (Step [] v7 W6) := by
          rw [hW6]
          refine Lib.hid ?_
          repeat (first | (with_reducible exact (Step.refl [] v7)) | (with_reducible refine Step.drew ?_) | (with_reducible refine Step.drewN ?_ _) | (with_reducible refine Step.alloc ?_ _) | ((with_reducible apply Step.setE); focus (first | (left; simp; done) | (right; simp; done) | (right; simp; omega) | (right; dsimp only; omega) | (right; omega))))
        have HS6 : Hid (Step [] W5 W6) := Lib.hid ((Step.of_below hb).trans HV6.out)
        have HBVC : Hid (Box W6 (v7.heap.size) #[.slice qa7 C5.queue.length qc7, .slice aa7 C5.apart.length ac7] 25) := by
          rw [hW6]
          refine Lib.hid ?_
          repeat (first | (with_reducible exact Box.newE _ _ _ _ (by first | rfl | (simp; done))) | (with_reducible refine Box.drew ?_) | (with_reducible refine Box.drewN ?_ _) | (with_reducible refine Box.alloc ?_ _) | (with_reducible apply Box.setE) | ((with_reducible apply Box.otherE); first | (exact (by omega)) | (exact (by simp)) | (exact (by simp; omega))) | (exact (rfl : Array.setIfInBounds _ _ _ = _)))
        clear hW6
        have DC : Hid (RNet (Dom (fun _ => True) [] W6) W6 C5 [.slice qa7 C5.queue.length qc7, .slice aa7 C5.apart.length ac7]) := Lib.hid (good_net.step HNB.out HV6.out)
        clear HNB hb
        have hx := lose_any C5 i qa7 qc7 aa7 ac7 W6 (Dom (fun _ => True) [] W6) dom_lt DC.out
        rw [Z3.out, Z5.out] at hx
        have qVC_0 := HBVC.out.cell 0 rfl
        have qVC_1 := HBVC.out.cell 1 rfl
        go_wp2_with fail
        refine hx.mono ?_
        rintro e v8 ⟨qa8, qc8, aa8, ac8, rfl, hn, hb⟩
        clear hx
        clear qVC_0 qVC_1
        have HNB := Lib.hid (good_net.back hn (fun _ _ => trivial) (noL _))
        clear hn
        go_upto_region 10 with (fail)
        refine wp_name ?_
        intro W7 hW7
        have HV7 : Hid (Step [] v8 W7) := by
          rw [hW7]
          refine Lib.hid ?_
          repeat (first | (with_reducible exact (Step.refl [] v8)) | (with_reducible refine Step.drew ?_) | (with_reducible refine Step.drewN ?_ _) | (with_reducible refine Step.alloc ?_ _) | ((with_reducible apply Step.setE); focus (first | (left; simp; done) | (right; simp; done) | (right; simp; omega) | (right; dsimp only; omega) | (right; omega))))
        have HS7 : Hid (Step [] W6 W7) := Lib.hid ((Step.of_below hb).trans HV7.out)
        have HBVD : Hid (Box W7 (v8.heap.size) #[.slice qa8 X5.queue.length qc8, .slice aa8 X5.apart.length ac8] 25) := by
          rw [hW7]
          refine Lib.hid ?_
          repeat (first | (with_reducible exact Box.newE _ _ _ _ (by first | rfl | (simp; done))) | (with_reducible refine Box.drew ?_) | (with_reducible refine Box.drewN ?_ _) | (with_reducible refine Box.alloc ?_ _) | (with_reducible apply Box.setE) | ((with_reducible apply Box.otherE); first | (exact (by omega)) | (exact (by simp)) | (exact (by simp; omega))) | (exact (rfl : Array.setIfInBounds _ _ _ = _)))
        clear hW7
        have DD : Hid (RNet (Dom (fun _ => True) [] W7) W7 X5 [.slice qa8 X5.queue.length qc8, .slice aa8 X5.apart.length ac8]) := Lib.hid (good_net.step HNB.out HV7.out)
        clear HNB hb
        replace HBN : Hid (Box W7 (w.heap.size) #[.slice (some ⟨qb, qo, none⟩) n.queue.length qc, .slice aa n.apart.length ac] 25) := Lib.hid (HBN.out.step (HS6.out.trans HS7.out) (by (first | omega | (simp; done) | (simp; omega))))
        replace HBVB : Hid (Box W7 (v6.heap.size) #[.slice qa6 A5.queue.length qc6, .slice aa6 A5.apart.length ac6] 25) := Lib.hid (HBVB.out.step (HS6.out.trans HS7.out) (by (first | omega | (simp; done) | (simp; omega))))
        have x0 := HBVB.out.cell 0 rfl
        have y0 := HBN.out.cell 0 rfl
        have x1 := HBVB.out.cell 1 rfl
        have y1 := HBN.out.cell 1 rfl
        have g0 := cell_step G0.out (((HS4.out.trans HS5.out).trans HS6.out).trans HS7.out)
        have g1 := cell_step G1.out (((HS4.out.trans HS5.out).trans HS6.out).trans HS7.out)
        have g2 := cell_step G2.out (((HS4.out.trans HS5.out).trans HS6.out).trans HS7.out)
        have r0 := fun q : LaterG LeB W7.drew => q.drewCell x0
        have r1 := fun q : LaterG LeB W7.drew => q.drewCell x1
        have r2 := fun q : LaterG LeB W7.drew => q.drewCell y0
        have r3 := fun q : LaterG LeB W7.drew => q.drewCell y1
        have r4 := fun q : LaterG LeB W7.drew => q.drewCell g0
        have r5 := fun q : LaterG LeB W7.drew => q.drewCell g1
        have r6 := fun q : LaterG LeB W7.drew => q.drewCell g2
        have hk1 : (i : Int) < (n.queue.length : Int) := by omega
        have hk0 : (0 : Int) ≤ (i : Int) := by omega
        have HS : Hid (∀ V, Below W7.heap.size W7 V → Calls Try.prog 11 #[.agg #[.slice qa6 A5.queue.length qc6, .slice aa6 A5.apart.length ac6], .agg #[.int .i64 p.src, .int .i64 p.dst, .slice da p.data.length dc]] V (NetRet (fun b => b < W7.heap.size) X5 0 V)) := Lib.hid (fun V hV => by
          rw [HX5.out, ← Z4.out]
          exact send_any A5 p qa6 qc6 aa6 ac6 da dc V (fun b => b < W7.heap.size) (fun b hb => Nat.lt_of_lt_of_le hb hV.size) (good_net.same (fun b hb => hb) hV (good_net.now_ (good_net.step DB.out (HS6.out.trans HS7.out)))) (good_pk.same (fun b hb => hb) hV (good_pk.now_ (good_pk.step DP.out (((HS4.out.trans HS5.out).trans HS6.out).trans HS7.out)))))
        clear x0 x1 y0 y1 g0 g1 g2
        have hst : ∀ e ∈ ([(6, TupD X5 0), (7, TupD X5 0), (8, AggD X5), (9, IntD 0)] : List (Nat × PropD)), StableD e.2 := (stable_cons (tupD_stable _ _) (stable_cons (tupD_stable _ _) (stable_cons (aggD_stable _) (stable_cons (intD_stable _) stable_nil))))
        have HST := Lib.hid hst
        clear hst
        refine wp_region_growI [0, 1, 2, 3, 4, 5, 6, 7, 8, 9, 10] [9] [11, 12] LeB (CallI W7.heap.size 6 [(6, TupD X5 0), (7, TupD X5 0), (8, AggD X5), (9, IntD 0)] [(10, #[.slice none 0 0, .slice none 0 0], 25)]) (hvOf [(6, []), (7, [6]), (8, [7]), (9, [7]), (10, [])]) (by kernel_rfl) (by kernel_rfl) (by kernel_rfl) (callI_lawful HST.out) (leB_refl _) (callI_start (Nat.le_refl _)) (fun d v c a w h => by cases d <;> exact h) ?_
        simp only [pickOps, List.getElem?_cons_zero, List.getElem?_cons_succ, List.map_cons, List.map_nil]
        repeat (refine wpGI_step rfl (fun K hK => ?_); go_simp; refine hK _ ?_; clear hK K)
        refine wpGI_heavy rfl rfl (callI_call (Φ := TupD X5 0) (Nat.le_refl _) (by intro e he h; simp only [List.mem_cons, List.not_mem_nil, or_false] at he; rcases he with rfl | rfl | rfl | rfl <;> first | rfl | exact absurd h (by simp)) (by intro e he; simp only [List.mem_cons, List.not_mem_nil, or_false] at he; rcases he with rfl <;> simp) (fun q => ?_)) (fun y6 => ?_)
        · go_simp
          refine (HS.out q.W q.below).mono ?_
          rintro e W'' ⟨qb1, qd1, ab1, ad1, rfl, hrn, hb⟩
          exact ⟨_, rfl, hb, qb1, qd1, ab1, ad1, rfl, hrn⟩
        simp only [Act.put, List.setIfInBounds_toArray, List.set_cons_zero, List.set_cons_succ]
        refine wpGI_heavy rfl rfl (callI_dep (j := 6) (Φ := TupD X5 0) (Ψ := TupD X5 0) (by simp) (by decide) (by intro e he h; simp only [List.mem_cons, List.not_mem_nil, or_false] at he; rcases he with rfl | rfl | rfl | rfl <;> first | rfl | exact absurd h (by simp)) (by intro e he; simp only [List.mem_cons, List.not_mem_nil, or_false] at he; rcases he with rfl <;> simp) (fun q D h => ?_)) (fun y7 => ?_)
        · obtain ⟨qb1, qd1, ab1, ad1, hv, hrn⟩ : TupD X5 0 D y6 q.W := h
          subst hv
          go_simp
          exact ⟨qb1, qd1, ab1, ad1, rfl, hrn⟩
        simp only [Act.put, List.setIfInBounds_toArray, List.set_cons_zero, List.set_cons_succ]
        refine wpGI_heavy rfl rfl (callI_dep (j := 7) (Φ := TupD X5 0) (Ψ := AggD X5) (by simp) (by decide) (by intro e he h; simp only [List.mem_cons, List.not_mem_nil, or_false] at he; rcases he with rfl | rfl | rfl | rfl <;> first | rfl | exact absurd h (by simp)) (by intro e he; simp only [List.mem_cons, List.not_mem_nil, or_false] at he; rcases he with rfl <;> simp) (fun q D h => ?_)) (fun y8 => ?_)
        · obtain ⟨qb1, qd1, ab1, ad1, hv, hrn⟩ : TupD X5 0 D y7 q.W := h
          subst hv
          go_simp
          exact ⟨qb1, qd1, ab1, ad1, rfl, hrn⟩
        simp only [Act.put, List.setIfInBounds_toArray, List.set_cons_zero, List.set_cons_succ]
        refine wpGI_heavy rfl rfl (callI_dep (j := 7) (Φ := TupD X5 0) (Ψ := IntD 0) (by simp) (by decide) (by intro e he h; simp only [List.mem_cons, List.not_mem_nil, or_false] at he; rcases he with rfl | rfl | rfl | rfl <;> first | rfl | exact absurd h (by simp)) (by intro e he; simp only [List.mem_cons, List.not_mem_nil, or_false] at he; rcases he with rfl <;> simp) (fun q D h => ?_)) (fun y9 => ?_)
        · obtain ⟨qb1, qd1, ab1, ad1, hv, hrn⟩ : TupD X5 0 D y7 q.W := h
          subst hv
          go_simp
          rfl
        simp only [Act.put, List.setIfInBounds_toArray, List.set_cons_zero, List.set_cons_succ]
        refine wpGI_heavy rfl rfl (callI_alloc (cs := #[.slice none 0 0, .slice none 0 0]) (t := 25) (by decide) (by intro e he; simp only [List.mem_cons, List.not_mem_nil, or_false] at he; rcases he with rfl | rfl | rfl | rfl <;> simp) (by intro e he h; simp only [List.mem_cons, List.not_mem_nil, or_false] at he; rcases he with rfl <;> first | rfl | exact absurd h (by simp)) HST.out (fun q => ?_)) (fun y10 => ?_)
        · go_simp
          first | exact ⟨below_new _ _, trivial, trivial⟩ | exact ⟨below_new _ _, rfl, rfl⟩ | exact below_new _ _
        simp only [Act.put, List.setIfInBounds_toArray, List.set_cons_zero, List.set_cons_succ]
        refine wpGI_nil ?_
        intro q s hs hI
        obtain ⟨h1, ⟨D, h2, h3, h4⟩, h5⟩ := hI
        clear r0 r1 r2 r3 r4 r5 r6 hk1 hk0
        obtain ⟨qa9, qc9, aa9, ac9, hv8, hrn⟩ : AggD X5 D y8 q.W := (h3 (8, AggD X5) (by simp) (hs 8 (by simp) rfl)).2
        have hv9 : y9 = .int .i64 0 := (h3 (9, IntD 0) (by simp) (hs 9 (by simp) rfl)).2
        obtain ⟨g9, hv10, hg0, hgD, hg9⟩ : ∃ g, y10 = .pointer (some ⟨g, 0, none⟩) ∧ W7.heap.size ≤ g ∧ ¬ D g ∧ Box q.W g #[.slice none 0 0, .slice none 0 0] 25 := h4 (10, #[.slice none 0 0, .slice none 0 0], 25) (by simp) (hs 10 (by simp) rfl)
        subst hv8 hv9 hv10
        have hb9 := q.below
        have HRN := Lib.hid hrn
        have HG := Lib.hid hg9
        have HGD : Hid (∀ b, D b → b ≠ g9) := Lib.hid (fun b hb e => hgD (by rw [← e]; exact hb))
        have HD2 := Lib.hid h2
        clear hs hrn hg9 h3 h4 hgD h2 h5 h1
        obtain ⟨v9, hby⟩ := q
        simp only at hb9 HRN HG HD2 ⊢
        clear hby
        have c0 := HG.out.cell 0 rfl
        have c1 := HG.out.cell 1 rfl
        have fc0 := HG.out.free 0
        have fc1 := HG.out.free 1
        have HG0 := Lib.hid hg0
        go_upto_region 11 with (fail)
        clear c0 c1 fc0 fc1
        refine wp_name ?_
        intro W8 hW8
        have HV8 : Hid (Step [g9] v9 W8) := by
          rw [hW8]
          refine Lib.hid ?_
          repeat (first | (with_reducible exact (Step.refl [g9] v9)) | (with_reducible refine Step.drew ?_) | (with_reducible refine Step.drewN ?_ _) | (with_reducible refine Step.alloc ?_ _) | ((with_reducible apply Step.setE); focus (first | (left; simp; done) | (right; simp; done) | (right; simp; omega) | (right; dsimp only; omega) | (right; omega))))
        have HS8 : Hid (Step [] W7 W8) := by
          rw [hW8]
          refine Lib.hid ?_
          repeat (first | (with_reducible exact (Step.of_below hb9)) | (with_reducible refine Step.drew ?_) | (with_reducible refine Step.drewN ?_ _) | (with_reducible refine Step.alloc ?_ _) | ((with_reducible apply Step.setE); focus (first | (left; simp; done) | (right; simp; done) | (right; simp; omega) | (right; dsimp only; omega) | (right; omega))))
        have HBVX : Hid (Box W8 (g9) #[.slice qa9 X5.queue.length qc9, .slice aa9 X5.apart.length ac9] 25) := by
          rw [hW8]
          refine Lib.hid ?_
          repeat (first | (with_reducible exact HG.out) | (with_reducible exact Box.newE _ _ _ _ (by first | rfl | (simp; done))) | (with_reducible refine Box.drew ?_) | (with_reducible refine Box.drewN ?_ _) | (with_reducible refine Box.alloc ?_ _) | (with_reducible apply Box.setE) | ((with_reducible apply Box.otherE); first | (exact (by omega)) | (exact (by simp)) | (exact (by simp; omega))) | (exact (rfl : Array.setIfInBounds _ _ _ = _)))
        clear hW8
        have DX : Hid (RNet (Dom (fun _ => True) [] W8) W8 X5 [.slice qa9 X5.queue.length qc9, .slice aa9 X5.apart.length ac9]) := Lib.hid (good_net.keep (fun b hb => ⟨trivial, Nat.lt_of_lt_of_le (HD2.out b hb) HV8.out.size, fun h => by cases h⟩) (fun b hb => HV8.out.block b (HD2.out b hb) (by simpa using HGD.out b hb)) HRN.out)
        clear hb9
        have hx := same_any A5 A5 qa5 qc5 aa5 ac5 qa6 qc6 aa6 ac6 W8 (good_net.now_ (good_net.step DA.out (((HS5.out.trans HS6.out).trans HS7.out).trans HS8.out))) (good_net.now_ (good_net.step DB.out ((HS6.out.trans HS7.out).trans HS8.out)))
        rw [sameB_refl] at hx
        replace HBVA : Hid (Box W8 (v5.heap.size + 1) #[.slice qa5 A5.queue.length qc5, .slice aa5 A5.apart.length ac5] 25) := Lib.hid (HBVA.out.step (((HS5.out.trans HS6.out).trans HS7.out).trans HS8.out) (by (first | omega | (simp; done) | (simp; omega))))
        have qVA_0 := HBVA.out.cell 0 rfl
        have qVA_1 := HBVA.out.cell 1 rfl
        replace HBVB : Hid (Box W8 (v6.heap.size) #[.slice qa6 A5.queue.length qc6, .slice aa6 A5.apart.length ac6] 25) := Lib.hid (HBVB.out.step HS8.out (by (first | omega | (simp; done) | (simp; omega))))
        have qVB_0 := HBVB.out.cell 0 rfl
        have qVB_1 := HBVB.out.cell 1 rfl
        go_wp2_with fail
        refine hx.mono ?_
        rintro e v10 ⟨rfl, hb10⟩
        clear hx
        clear qVA_0 qVA_1 qVB_0 qVB_1
        have hx := same_any X5 X5 qa8 qc8 aa8 ac8 qa9 qc9 aa9 ac9 v10 (good_net.now_ (good_net.step DD.out (HS8.out.trans (Step.of_below hb10)))) (good_net.now_ (good_net.step DX.out (Step.of_below hb10)))
        rw [sameB_refl] at hx
        replace HBVD : Hid (Box W8 (v8.heap.size) #[.slice qa8 X5.queue.length qc8, .slice aa8 X5.apart.length ac8] 25) := Lib.hid (HBVD.out.step HS8.out (by (first | omega | (simp; done) | (simp; omega))))
        have BVVD := HBVD.out.below hb10
        have qVD_0 := BVVD.cell 0 rfl
        have qVD_1 := BVVD.cell 1 rfl
        have BVVX := HBVX.out.below hb10
        have qVX_0 := BVVX.cell 0 rfl
        have qVX_1 := BVVX.cell 1 rfl
        go_wp2_with fail
        refine hx.mono ?_
        rintro e v11 ⟨rfl, hb11⟩
        clear hx
        clear BVVD qVD_0 qVD_1 BVVX qVX_0 qVX_1
        have hb12 : Below W8.heap.size W8 v11 := hb10.trans (hb11.mono hb10.size)
        clear hb10 hb11
        replace HBVC : Hid (Box W8 (v7.heap.size) #[.slice qa7 C5.queue.length qc7, .slice aa7 C5.apart.length ac7] 25) := Lib.hid (HBVC.out.step (HS7.out.trans HS8.out) (by (first | omega | (simp; done) | (simp; omega))))
        have BVVC := HBVC.out.below hb12
        have qVC_0 := BVVC.cell 0 rfl
        have qVC_1 := BVVC.cell 1 rfl
        replace HBN : Hid (Box W8 (w.heap.size) #[.slice (some ⟨qb, qo, none⟩) n.queue.length qc, .slice aa n.apart.length ac] 25) := Lib.hid (HBN.out.step HS8.out (by (first | omega | (simp; done) | (simp; omega))))
        have BVN := HBN.out.below hb12
        have qN_0 := BVN.cell 0 rfl
        have qN_1 := BVN.cell 1 rfl
        have z6 : (C5.queue.length : Int) = (n.queue.length : Int) + 1 := by have := Z6.out; omega
        go_wp2
        go_ret
        exact ⟨rfl, ((Step.to_below (((((((HS1.out.trans HS2.out).trans HS3.out).trans HS4.out).trans HS5.out).trans HS6.out).trans HS7.out).trans HS8.out) (noS w)).trans (hb12.mono (((((((HS1.out.trans HS2.out).trans HS3.out).trans HS4.out).trans HS5.out).trans HS6.out).trans HS7.out).trans HS8.out).size))⟩
      · have BN := HBN.out.below hb4
        have qN_0 := BN.cell 0 rfl
        have qN_1 := BN.cell 1 rfl
        have h0' : n.queue.length = 0 := by omega
        go_wp2
        go_ret
        exact ⟨rfl, ((Step.to_below (HS1.out.trans HS2.out) (noS w)).trans (hb4.mono (HS1.out.trans HS2.out).size))⟩
    · go_wp2
      go_ret
      exact ⟨rfl, ((Step.to_below (HS1.out.trans HS2.out) (noS w)).trans (hb4.mono (HS1.out.trans HS2.out).size))⟩
end Go.Proofs.Ytmlhpchabnajkaa
