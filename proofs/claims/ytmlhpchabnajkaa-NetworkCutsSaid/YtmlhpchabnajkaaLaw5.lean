/- NetworkCuts -/
import Derived.Test.YtmlhpchabnajkaaNet22
import Derived.Test.YtmlhpchabnajkaaNetCuts
namespace Go.Proofs.Ytmlhpchabnajkaa
set_option linter.unusedSimpArgs false
set_option linter.unusedVariables false
open Go.RowKit
attribute [local go_sem ↓] Go.wp_at_zero Go.wp_at_succ
attribute [local go_sem] gquiet gquietAt sameUpon growUpon leB_true
set_option maxRecDepth 100000 in
set_option maxHeartbeats 9000000 in
theorem law5_any (n : NetM) (a b at_ : Int) (ha : i64R a) (hb' : i64R b) (hat : (Lit.int .u64 at_).wf = true) (qa : Option Addr) (qc : Nat) (aa : Option Addr) (ac : Nat) (w : World) (hr : RNet (Now w) w n [.slice qa n.queue.length qc, .slice aa n.apart.length ac]) :
    Calls Try.prog 5 #[.agg #[.slice qa n.queue.length qc, .slice aa n.apart.length ac], .int .i64 a, .int .i64 b, .int .u64 at_] w (Gives (.bool true) w) := by
  have HR := Lib.hid hr
  have l1 : n.queue.length ≤ 140737488351232 := by obtain ⟨_, _, _, _, e, _, h, _⟩ := hr; cases e; exact h
  have l2 : n.apart.length ≤ 140737488351232 := by obtain ⟨_, _, _, _, e, _, _, _, _, h, _⟩ := hr; cases e; exact h
  have hat0 : 0 ≤ at_ ∧ at_ ≤ 18446744073709551615 := by simpa [Lit.wf, IntKind.min, IntKind.max, IntKind.signed, IntKind.bits] using hat
  obtain ⟨at0, at1⟩ := hat0
  clear hat
  clear hr
  unfold Gives
  go_enter Try.func5, Try.ntmps5
  go_upto_region 1 with (fail)
  refine wp_name ?_
  intro W1 hW1
  have HV1 : Hid (Step [] w W1) := by
    rw [hW1]
    refine Lib.hid ?_
    repeat (first | (with_reducible exact (Step.refl [] w)) | (with_reducible refine Step.drew ?_) | (with_reducible refine Step.drewN ?_ _) | (with_reducible refine Step.alloc ?_ _) | ((with_reducible apply Step.setE); focus (first | (left; simp; done) | (right; simp; done) | (right; simp; omega) | (right; dsimp only; omega) | (right; omega))))
  have HS1 : Hid (Step [] w W1) := Lib.hid HV1.out
  have HBN : Hid (Box W1 (w.heap.size) #[.slice qa n.queue.length qc, .slice aa n.apart.length ac] 25) := by
    rw [hW1]
    refine Lib.hid ?_
    repeat (first | (with_reducible exact Box.newE _ _ _ _ (by first | rfl | (simp; done))) | (with_reducible refine Box.drew ?_) | (with_reducible refine Box.drewN ?_ _) | (with_reducible refine Box.alloc ?_ _) | (with_reducible apply Box.setE) | ((with_reducible apply Box.otherE); first | (exact (by omega)) | (exact (by simp)) | (exact (by simp; omega))) | (exact (rfl : Array.setIfInBounds _ _ _ = _)))
  clear hW1
  have DN : Hid (RNet (Dom (fun _ => True) [] W1) W1 n [.slice qa n.queue.length qc, .slice aa n.apart.length ac]) := Lib.hid (good_net.enterT HR.out HS1.out (noS _))
  have hx := sane_any W1
  go_wp2_with fail
  refine hx.mono ?_
  rintro e v ⟨rfl, hb⟩
  clear hx
  go_upto_region 3 with (fail)
  refine wp_name ?_
  intro W2 hW2
  have HV2 : Hid (Step [] v W2) := by
    rw [hW2]
    refine Lib.hid ?_
    repeat (first | (with_reducible exact (Step.refl [] v)) | (with_reducible refine Step.drew ?_) | (with_reducible refine Step.drewN ?_ _) | (with_reducible refine Step.alloc ?_ _) | ((with_reducible apply Step.setE); focus (first | (left; simp; done) | (right; simp; done) | (right; simp; omega) | (right; dsimp only; omega) | (right; omega))))
  have HS2 : Hid (Step [] W1 W2) := Lib.hid ((Step.of_below hb).trans HV2.out)
  clear hW2
  clear hb
  obtain ⟨bf, hbf⟩ : ∃ b, b = fewB n := ⟨_, rfl⟩
  have hx := few_any n qa qc aa ac W2 l1 l2
  rw [← hbf] at hx
  have HBF := Lib.hid hbf
  clear hbf
  replace HBN : Hid (Box W2 (w.heap.size) #[.slice qa n.queue.length qc, .slice aa n.apart.length ac] 25) := Lib.hid (HBN.out.step HS2.out (by (first | omega | (simp; done) | (simp; omega))))
  have qN_0 := HBN.out.cell 0 rfl
  have qN_1 := HBN.out.cell 1 rfl
  go_wp2_with fail
  refine hx.mono ?_
  rintro e v ⟨rfl, hb⟩
  clear hx
  clear qN_0 qN_1
  cases bf
  · go_wp2
    go_ret
    exact ⟨rfl, ((Step.to_below (Step.trans HS1.out HS2.out) (noS w)).trans (hb.mono (Step.trans HS1.out HS2.out).size))⟩
  · obtain ⟨c0, hc0⟩ : ∃ c, c = chk n := ⟨_, rfl⟩
    have HC0 := Lib.hid hc0
    have hx := check_any n qa qc aa ac v (good_net.now_ (good_net.step DN.out (HS2.out.trans (Step.of_below hb))))
    rw [← hc0] at hx
    clear hc0
    have BN := HBN.out.below hb
    have qN_0 := BN.cell 0 rfl
    have qN_1 := BN.cell 1 rfl
    go_wp2_with fail
    refine hx.mono ?_
    rintro e v3 ⟨rfl, hb3⟩
    clear hx
    clear BN qN_0 qN_1
    have hb4 : Below W2.heap.size W2 v3 := hb.trans (hb3.mono hb.size)
    clear hb hb3
    by_cases hc : c0 = 0
    · subst hc
      have hv := chk_netB HC0.out.symm
      have HV := Lib.hid hv
      have BN := HBN.out.below hb4
      have qN_0 := BN.cell 0 rfl
      have qN_1 := BN.cell 1 rfl
      have hce := cutE_cases n a b hv
      clear hv
      go_upto_region 5 with (fail)
      clear BN qN_0 qN_1
      refine wp_name ?_
      intro W3 hW3
      have HV3 : Hid (Step [] v3 W3) := by
        rw [hW3]
        refine Lib.hid ?_
        repeat (first | (with_reducible exact (Step.refl [] v3)) | (with_reducible refine Step.drew ?_) | (with_reducible refine Step.drewN ?_ _) | (with_reducible refine Step.alloc ?_ _) | ((with_reducible apply Step.setE); focus (first | (left; simp; done) | (right; simp; done) | (right; simp; omega) | (right; dsimp only; omega) | (right; omega))))
      have HS3 : Hid (Step [] W2 W3) := Lib.hid ((Step.of_below hb4).trans HV3.out)
      clear hW3
      clear hb4
      rcases hce with hce | hce
      · obtain ⟨s1, s2, s3, s4, s5, s6, s7⟩ := cuts_same n a b HV.out hce
        obtain ⟨X5, hX5⟩ : ∃ x, x = cutN n a b true := ⟨_, rfl⟩
        obtain ⟨K5, hK5⟩ : ∃ x, x = cutN n a b false := ⟨_, rfl⟩
        rw [← hX5] at s2 s3 s4 s5 s6 s7
        rw [← hK5] at s6 s7
        have HCE := Lib.hid hce
        have S1 := Lib.hid s1
        have S2 := Lib.hid s2
        have S3 := Lib.hid s3
        have S4 := Lib.hid s4
        have S5 := Lib.hid s5
        have S6 := Lib.hid s6
        have S7 := Lib.hid s7
        clear s1 s2 s3 s4 s5 s6 s7 hce
        have HX5 := Lib.hid hX5
        clear hX5
        have HK5 := Lib.hid hK5
        clear hK5
        have hx := cut_any n a b true qa qc aa ac W3 (Dom (fun _ => True) [] W3) dom_lt (good_net.step DN.out (Step.trans HS2.out HS3.out))
        rw [HCE.out, ← HX5.out] at hx
        replace HBN : Hid (Box W3 (w.heap.size) #[.slice qa n.queue.length qc, .slice aa n.apart.length ac] 25) := Lib.hid (HBN.out.step HS3.out (by (first | omega | (simp; done) | (simp; omega))))
        have qN_0 := HBN.out.cell 0 rfl
        have qN_1 := HBN.out.cell 1 rfl
        go_wp2_with fail
        refine hx.mono ?_
        rintro e v5 ⟨qa5, qc5, aa5, ac5, rfl, hn, hb⟩
        clear hx
        clear qN_0 qN_1
        have HNB := Lib.hid (good_net.back hn (fun _ _ => trivial) (noL _))
        clear hn
        go_upto_region 8 with (fail)
        refine wp_name ?_
        intro W4 hW4
        have HV4 : Hid (Step [] v5 W4) := by
          rw [hW4]
          refine Lib.hid ?_
          repeat (first | (with_reducible exact (Step.refl [] v5)) | (with_reducible refine Step.drew ?_) | (with_reducible refine Step.drewN ?_ _) | (with_reducible refine Step.alloc ?_ _) | ((with_reducible apply Step.setE); focus (first | (left; simp; done) | (right; simp; done) | (right; simp; omega) | (right; dsimp only; omega) | (right; omega))))
        have HS4 : Hid (Step [] W3 W4) := Lib.hid ((Step.of_below hb).trans HV4.out)
        have HBVX : Hid (Box W4 (v5.heap.size) #[.slice qa5 X5.queue.length qc5, .slice aa5 X5.apart.length ac5] 25) := by
          rw [hW4]
          refine Lib.hid ?_
          repeat (first | (with_reducible exact Box.newE _ _ _ _ (by first | rfl | (simp; done))) | (with_reducible refine Box.drew ?_) | (with_reducible refine Box.drewN ?_ _) | (with_reducible refine Box.alloc ?_ _) | (with_reducible apply Box.setE) | ((with_reducible apply Box.otherE); first | (exact (by omega)) | (exact (by simp)) | (exact (by simp; omega))) | (exact (rfl : Array.setIfInBounds _ _ _ = _)))
        clear hW4
        have DX : Hid (RNet (Dom (fun _ => True) [] W4) W4 X5 [.slice qa5 X5.queue.length qc5, .slice aa5 X5.apart.length ac5]) := Lib.hid (good_net.step HNB.out HV4.out)
        clear HNB hb
        have hx := cut_any n b a true qa qc aa ac W4 (Dom (fun _ => True) [] W4) dom_lt (good_net.step DN.out (Step.trans (Step.trans HS2.out HS3.out) HS4.out))
        rw [S1.out, S2.out] at hx
        replace HBN : Hid (Box W4 (w.heap.size) #[.slice qa n.queue.length qc, .slice aa n.apart.length ac] 25) := Lib.hid (HBN.out.step HS4.out (by (first | omega | (simp; done) | (simp; omega))))
        have qN_0 := HBN.out.cell 0 rfl
        have qN_1 := HBN.out.cell 1 rfl
        go_wp2_with fail
        refine hx.mono ?_
        rintro e v6 ⟨qa6, qc6, aa6, ac6, rfl, hn, hb⟩
        clear hx
        clear qN_0 qN_1
        have HNB := Lib.hid (good_net.back hn (fun _ _ => trivial) (noL _))
        clear hn
        go_upto_region 9 with (fail)
        refine wp_name ?_
        intro W5 hW5
        have HV5 : Hid (Step [] v6 W5) := by
          rw [hW5]
          refine Lib.hid ?_
          repeat (first | (with_reducible exact (Step.refl [] v6)) | (with_reducible refine Step.drew ?_) | (with_reducible refine Step.drewN ?_ _) | (with_reducible refine Step.alloc ?_ _) | ((with_reducible apply Step.setE); focus (first | (left; simp; done) | (right; simp; done) | (right; simp; omega) | (right; dsimp only; omega) | (right; omega))))
        have HS5 : Hid (Step [] W4 W5) := Lib.hid ((Step.of_below hb).trans HV5.out)
        have HBVY : Hid (Box W5 (v6.heap.size) #[.slice qa6 X5.queue.length qc6, .slice aa6 X5.apart.length ac6] 25) := by
          rw [hW5]
          refine Lib.hid ?_
          repeat (first | (with_reducible exact Box.newE _ _ _ _ (by first | rfl | (simp; done))) | (with_reducible refine Box.drew ?_) | (with_reducible refine Box.drewN ?_ _) | (with_reducible refine Box.alloc ?_ _) | (with_reducible apply Box.setE) | ((with_reducible apply Box.otherE); first | (exact (by omega)) | (exact (by simp)) | (exact (by simp; omega))) | (exact (rfl : Array.setIfInBounds _ _ _ = _)))
        clear hW5
        have DY : Hid (RNet (Dom (fun _ => True) [] W5) W5 X5 [.slice qa6 X5.queue.length qc6, .slice aa6 X5.apart.length ac6]) := Lib.hid (good_net.step HNB.out HV5.out)
        clear HNB hb
        have hx := cut_any X5 a b true qa5 qc5 aa5 ac5 W5 (Dom (fun _ => True) [] W5) dom_lt (good_net.step DX.out HS5.out)
        rw [S3.out, S4.out] at hx
        replace HBVX : Hid (Box W5 (v5.heap.size) #[.slice qa5 X5.queue.length qc5, .slice aa5 X5.apart.length ac5] 25) := Lib.hid (HBVX.out.step HS5.out (by (first | omega | (simp; done) | (simp; omega))))
        have qVX_0 := HBVX.out.cell 0 rfl
        have qVX_1 := HBVX.out.cell 1 rfl
        go_wp2_with fail
        refine hx.mono ?_
        rintro e v7 ⟨qa7, qc7, aa7, ac7, rfl, hn, hb⟩
        clear hx
        clear qVX_0 qVX_1
        have HNB := Lib.hid (good_net.back hn (fun _ _ => trivial) (noL _))
        clear hn
        go_upto_region 10 with (fail)
        refine wp_name ?_
        intro W6 hW6
        have HV6 : Hid (Step [] v7 W6) := by
          rw [hW6]
          refine Lib.hid ?_
          repeat (first | (with_reducible exact (Step.refl [] v7)) | (with_reducible refine Step.drew ?_) | (with_reducible refine Step.drewN ?_ _) | (with_reducible refine Step.alloc ?_ _) | ((with_reducible apply Step.setE); focus (first | (left; simp; done) | (right; simp; done) | (right; simp; omega) | (right; dsimp only; omega) | (right; omega))))
        have HS6 : Hid (Step [] W5 W6) := Lib.hid ((Step.of_below hb).trans HV6.out)
        have HBVZ : Hid (Box W6 (v7.heap.size) #[.slice qa7 X5.queue.length qc7, .slice aa7 X5.apart.length ac7] 25) := by
          rw [hW6]
          refine Lib.hid ?_
          repeat (first | (with_reducible exact Box.newE _ _ _ _ (by first | rfl | (simp; done))) | (with_reducible refine Box.drew ?_) | (with_reducible refine Box.drewN ?_ _) | (with_reducible refine Box.alloc ?_ _) | (with_reducible apply Box.setE) | ((with_reducible apply Box.otherE); first | (exact (by omega)) | (exact (by simp)) | (exact (by simp; omega))) | (exact (rfl : Array.setIfInBounds _ _ _ = _)))
        clear hW6
        have DZ : Hid (RNet (Dom (fun _ => True) [] W6) W6 X5 [.slice qa7 X5.queue.length qc7, .slice aa7 X5.apart.length ac7]) := Lib.hid (good_net.step HNB.out HV6.out)
        clear HNB hb
        have hx := cut_any X5 b a false qa5 qc5 aa5 ac5 W6 (Dom (fun _ => True) [] W6) dom_lt (good_net.step DX.out (Step.trans HS5.out HS6.out))
        rw [S5.out, S6.out] at hx
        replace HBVX : Hid (Box W6 (v5.heap.size) #[.slice qa5 X5.queue.length qc5, .slice aa5 X5.apart.length ac5] 25) := Lib.hid (HBVX.out.step HS6.out (by (first | omega | (simp; done) | (simp; omega))))
        have qVX_0 := HBVX.out.cell 0 rfl
        have qVX_1 := HBVX.out.cell 1 rfl
        go_wp2_with fail
        refine hx.mono ?_
        rintro e v8 ⟨qa8, qc8, aa8, ac8, rfl, hn, hb⟩
        clear hx
        clear qVX_0 qVX_1
        have HNB := Lib.hid (good_net.back hn (fun _ _ => trivial) (noL _))
        clear hn
        go_upto_region 11 with (fail)
        refine wp_name ?_
        intro W7 hW7
        have HV7 : Hid (Step [] v8 W7) := by
          rw [hW7]
          refine Lib.hid ?_
          repeat (first | (with_reducible exact (Step.refl [] v8)) | (with_reducible refine Step.drew ?_) | (with_reducible refine Step.drewN ?_ _) | (with_reducible refine Step.alloc ?_ _) | ((with_reducible apply Step.setE); focus (first | (left; simp; done) | (right; simp; done) | (right; simp; omega) | (right; dsimp only; omega) | (right; omega))))
        have HS7 : Hid (Step [] W6 W7) := Lib.hid ((Step.of_below hb).trans HV7.out)
        have HBVM : Hid (Box W7 (v8.heap.size) #[.slice qa8 K5.queue.length qc8, .slice aa8 K5.apart.length ac8] 25) := by
          rw [hW7]
          refine Lib.hid ?_
          repeat (first | (with_reducible exact Box.newE _ _ _ _ (by first | rfl | (simp; done))) | (with_reducible refine Box.drew ?_) | (with_reducible refine Box.drewN ?_ _) | (with_reducible refine Box.alloc ?_ _) | (with_reducible apply Box.setE) | ((with_reducible apply Box.otherE); first | (exact (by omega)) | (exact (by simp)) | (exact (by simp; omega))) | (exact (rfl : Array.setIfInBounds _ _ _ = _)))
        clear hW7
        have DM : Hid (RNet (Dom (fun _ => True) [] W7) W7 K5 [.slice qa8 K5.queue.length qc8, .slice aa8 K5.apart.length ac8]) := Lib.hid (good_net.step HNB.out HV7.out)
        clear HNB hb
        have hx := cut_any n a b false qa qc aa ac W7 (Dom (fun _ => True) [] W7) dom_lt (good_net.step DN.out (Step.trans (Step.trans (Step.trans (Step.trans (Step.trans HS2.out HS3.out) HS4.out) HS5.out) HS6.out) HS7.out))
        rw [HCE.out, ← HK5.out] at hx
        replace HBN : Hid (Box W7 (w.heap.size) #[.slice qa n.queue.length qc, .slice aa n.apart.length ac] 25) := Lib.hid (HBN.out.step (Step.trans (Step.trans HS5.out HS6.out) HS7.out) (by (first | omega | (simp; done) | (simp; omega))))
        have qN_0 := HBN.out.cell 0 rfl
        have qN_1 := HBN.out.cell 1 rfl
        go_wp2_with fail
        refine hx.mono ?_
        rintro e v9 ⟨qa9, qc9, aa9, ac9, rfl, hn, hb⟩
        clear hx
        clear qN_0 qN_1
        have HNB := Lib.hid (good_net.back hn (fun _ _ => trivial) (noL _))
        clear hn
        go_upto_region 12 with (fail)
        refine wp_name ?_
        intro W8 hW8
        have HV8 : Hid (Step [] v9 W8) := by
          rw [hW8]
          refine Lib.hid ?_
          repeat (first | (with_reducible exact (Step.refl [] v9)) | (with_reducible refine Step.drew ?_) | (with_reducible refine Step.drewN ?_ _) | (with_reducible refine Step.alloc ?_ _) | ((with_reducible apply Step.setE); focus (first | (left; simp; done) | (right; simp; done) | (right; simp; omega) | (right; dsimp only; omega) | (right; omega))))
        have HS8 : Hid (Step [] W7 W8) := Lib.hid ((Step.of_below hb).trans HV8.out)
        have HBVK : Hid (Box W8 (v9.heap.size) #[.slice qa9 K5.queue.length qc9, .slice aa9 K5.apart.length ac9] 25) := by
          rw [hW8]
          refine Lib.hid ?_
          repeat (first | (with_reducible exact Box.newE _ _ _ _ (by first | rfl | (simp; done))) | (with_reducible refine Box.drew ?_) | (with_reducible refine Box.drewN ?_ _) | (with_reducible refine Box.alloc ?_ _) | (with_reducible apply Box.setE) | ((with_reducible apply Box.otherE); first | (exact (by omega)) | (exact (by simp)) | (exact (by simp; omega))) | (exact (rfl : Array.setIfInBounds _ _ _ = _)))
        clear hW8
        have DK : Hid (RNet (Dom (fun _ => True) [] W8) W8 K5 [.slice qa9 K5.queue.length qc9, .slice aa9 K5.apart.length ac9]) := Lib.hid (good_net.step HNB.out HV8.out)
        clear HNB hb
        have hx := same_any X5 X5 qa5 qc5 aa5 ac5 qa6 qc6 aa6 ac6 W8 (good_net.now_ (good_net.step DX.out (Step.trans (Step.trans (Step.trans HS5.out HS6.out) HS7.out) HS8.out))) (good_net.now_ (good_net.step DY.out (Step.trans (Step.trans HS6.out HS7.out) HS8.out)))
        rw [sameB_refl] at hx
        replace HBVX : Hid (Box W8 (v5.heap.size) #[.slice qa5 X5.queue.length qc5, .slice aa5 X5.apart.length ac5] 25) := Lib.hid (HBVX.out.step (Step.trans HS7.out HS8.out) (by (first | omega | (simp; done) | (simp; omega))))
        have qVX_0 := HBVX.out.cell 0 rfl
        have qVX_1 := HBVX.out.cell 1 rfl
        replace HBVY : Hid (Box W8 (v6.heap.size) #[.slice qa6 X5.queue.length qc6, .slice aa6 X5.apart.length ac6] 25) := Lib.hid (HBVY.out.step (Step.trans (Step.trans HS6.out HS7.out) HS8.out) (by (first | omega | (simp; done) | (simp; omega))))
        have qVY_0 := HBVY.out.cell 0 rfl
        have qVY_1 := HBVY.out.cell 1 rfl
        go_wp2_with fail
        refine hx.mono ?_
        rintro e v10 ⟨rfl, hb10⟩
        clear hx
        clear qVX_0 qVX_1 qVY_0 qVY_1
        have hx := same_any X5 X5 qa5 qc5 aa5 ac5 qa7 qc7 aa7 ac7 v10 (good_net.now_ (good_net.step DX.out ((Step.trans (Step.trans (Step.trans HS5.out HS6.out) HS7.out) HS8.out).trans (Step.of_below hb10)))) (good_net.now_ (good_net.step DZ.out ((Step.trans HS7.out HS8.out).trans (Step.of_below hb10))))
        rw [sameB_refl] at hx
        have BVVX := HBVX.out.below hb10
        have qVX_0 := BVVX.cell 0 rfl
        have qVX_1 := BVVX.cell 1 rfl
        replace HBVZ : Hid (Box W8 (v7.heap.size) #[.slice qa7 X5.queue.length qc7, .slice aa7 X5.apart.length ac7] 25) := Lib.hid (HBVZ.out.step (Step.trans HS7.out HS8.out) (by (first | omega | (simp; done) | (simp; omega))))
        have BVVZ := HBVZ.out.below hb10
        have qVZ_0 := BVVZ.cell 0 rfl
        have qVZ_1 := BVVZ.cell 1 rfl
        go_wp2_with fail
        refine hx.mono ?_
        rintro e v11 ⟨rfl, hb11⟩
        clear hx
        clear BVVX qVX_0 qVX_1 BVVZ qVZ_0 qVZ_1
        have hb12 : Below W8.heap.size W8 v11 := hb10.trans (hb11.mono hb10.size)
        clear hb10 hb11
        have hx := same_any K5 K5 qa8 qc8 aa8 ac8 qa9 qc9 aa9 ac9 v11 (good_net.now_ (good_net.step DM.out (HS8.out.trans (Step.of_below hb12)))) (good_net.now_ (good_net.step DK.out (Step.of_below hb12)))
        rw [sameB_refl] at hx
        replace HBVM : Hid (Box W8 (v8.heap.size) #[.slice qa8 K5.queue.length qc8, .slice aa8 K5.apart.length ac8] 25) := Lib.hid (HBVM.out.step HS8.out (by (first | omega | (simp; done) | (simp; omega))))
        have BVVM := HBVM.out.below hb12
        have qVM_0 := BVVM.cell 0 rfl
        have qVM_1 := BVVM.cell 1 rfl
        have BVVK := HBVK.out.below hb12
        have qVK_0 := BVVK.cell 0 rfl
        have qVK_1 := BVVK.cell 1 rfl
        go_wp2_with fail
        refine hx.mono ?_
        rintro e v12 ⟨rfl, hb13⟩
        clear hx
        clear BVVM qVM_0 qVM_1 BVVK qVK_0 qVK_1
        have hb14 : Below W8.heap.size W8 v12 := hb12.trans (hb13.mono hb12.size)
        clear hb12 hb13
        have BVVX := HBVX.out.below hb14
        have qVX_0 := BVVX.cell 0 rfl
        have qVX_1 := BVVX.cell 1 rfl
        have BVVK := HBVK.out.below hb14
        have qVK_0 := BVVK.cell 0 rfl
        have qVK_1 := BVVK.cell 1 rfl
        have s7 : (X5.apart.length : Int) = (K5.apart.length : Int) + 1 := by have := S7.out; omega
        have s8 : K5.apart.length ≤ 140737488351232 := by obtain ⟨_, _, _, _, e, _, _, _, _, h, _⟩ := DK.out; cases e; exact h
        go_upto_region 14 with (fail)
        clear BVVX qVX_0 qVX_1 BVVK qVK_0 qVK_1
        clear s7 s8
        refine wp_name ?_
        intro W9 hW9
        have HV9 : Hid (Step [] v12 W9) := by
          rw [hW9]
          refine Lib.hid ?_
          repeat (first | (with_reducible exact (Step.refl [] v12)) | (with_reducible refine Step.drew ?_) | (with_reducible refine Step.drewN ?_ _) | (with_reducible refine Step.alloc ?_ _) | ((with_reducible apply Step.setE); focus (first | (left; simp; done) | (right; simp; done) | (right; simp; omega) | (right; dsimp only; omega) | (right; omega))))
        have HS9 : Hid (Step [] W8 W9) := Lib.hid ((Step.of_below hb14).trans HV9.out)
        clear hW9
        clear hb14
        by_cases h0 : 0 < n.queue.length
        · replace HBN : Hid (Box W9 (w.heap.size) #[.slice qa n.queue.length qc, .slice aa n.apart.length ac] 25) := Lib.hid (HBN.out.step (Step.trans HS8.out HS9.out) (by (first | omega | (simp; done) | (simp; omega))))
          have qN_0 := HBN.out.cell 0 rfl
          have qN_1 := HBN.out.cell 1 rfl
          have h0' : n.queue.length ≠ 0 := by omega
          have h0z : (n.queue.length : Int) ≠ 0 := by omega
          have h0b : ((n.queue.length : Int) == 0) = false := by simpa using h0z
          obtain ⟨i, hi⟩ : ∃ i : Nat, at_ % (n.queue.length : Int) = (i : Int) := ⟨(at_ % (n.queue.length : Int)).toNat, (Int.toNat_of_nonneg (Int.emod_nonneg _ h0z)).symm⟩
          have li : i < n.queue.length := by have := Int.emod_lt_of_pos at_ (show (0 : Int) < (n.queue.length : Int) by omega); omega
          have wi : wrap64 (i : Int) = (i : Int) := IntWalk.wrap64_in _ (by omega)
          go_upto_region 17 with (fail)
          clear qN_0 qN_1
          refine wp_name ?_
          intro W10 hW10
          have HV10 : Hid (Step [] W9 W10) := by
            rw [hW10]
            refine Lib.hid ?_
            repeat (first | (with_reducible exact (Step.refl [] W9)) | (with_reducible refine Step.drew ?_) | (with_reducible refine Step.drewN ?_ _) | (with_reducible refine Step.alloc ?_ _) | ((with_reducible apply Step.setE); focus (first | (left; simp; done) | (right; simp; done) | (right; simp; omega) | (right; dsimp only; omega) | (right; omega))))
          have HS10 : Hid (Step [] W9 W10) := Lib.hid HV10.out
          clear hW10
          clear hi wi h0b h0z h0'
          obtain ⟨c1, c2, c3, c4⟩ := cuts_plain n a b i HV.out HCE.out li
          rw [← HX5.out] at c1 c3 c4
          rw [← HK5.out] at c2 c3 c4
          obtain ⟨P5, hP5⟩ : ∃ x, x = delP X5 i := ⟨_, rfl⟩
          obtain ⟨Q5, hQ5⟩ : ∃ x, x = delP K5 i := ⟨_, rfl⟩
          rw [← hP5, ← hQ5] at c3 c4
          have C1 := Lib.hid c1
          have C2 := Lib.hid c2
          have C3 := Lib.hid c3
          have C4 := Lib.hid c4
          clear c1 c2 c3 c4
          have HP5 := Lib.hid hP5
          clear hP5
          have HQ5 := Lib.hid hQ5
          clear hQ5
          have hx := deliver_any X5 i qa5 qc5 aa5 ac5 W10 (Dom (fun _ => True) [] W10) dom_lt (good_net.step DX.out (Step.trans (Step.trans (Step.trans (Step.trans (Step.trans HS5.out HS6.out) HS7.out) HS8.out) HS9.out) HS10.out))
          rw [C1.out, ← HP5.out] at hx
          replace HBVX : Hid (Box W10 (v5.heap.size) #[.slice qa5 X5.queue.length qc5, .slice aa5 X5.apart.length ac5] 25) := Lib.hid (HBVX.out.step (Step.trans HS9.out HS10.out) (by (first | omega | (simp; done) | (simp; omega))))
          have qVX_0 := HBVX.out.cell 0 rfl
          have qVX_1 := HBVX.out.cell 1 rfl
          go_wp2_with fail
          refine hx.mono ?_
          rintro e v20 ⟨da20, dc20, qa20, qc20, aa20, ac20, rfl, hpk, hn, hb⟩
          clear hx
          clear qVX_0 qVX_1
          have HPB := Lib.hid (good_pk.back hpk (fun _ _ => trivial) (noL _))
          clear hpk hn
          go_upto_region 18 with (fail)
          refine wp_name ?_
          intro W11 hW11
          have HV11 : Hid (Step [] v20 W11) := by
            rw [hW11]
            refine Lib.hid ?_
            repeat (first | (with_reducible exact (Step.refl [] v20)) | (with_reducible refine Step.drew ?_) | (with_reducible refine Step.drewN ?_ _) | (with_reducible refine Step.alloc ?_ _) | ((with_reducible apply Step.setE); focus (first | (left; simp; done) | (right; simp; done) | (right; simp; omega) | (right; dsimp only; omega) | (right; omega))))
          have HS11 : Hid (Step [] W10 W11) := Lib.hid ((Step.of_below hb).trans HV11.out)
          have HBVP5 : Hid (Box W11 (v20.heap.size) #[.int .i64 P5.src, .int .i64 P5.dst, .slice da20 P5.data.length dc20] 28) := by
            rw [hW11]
            refine Lib.hid ?_
            repeat (first | (with_reducible exact Box.newE _ _ _ _ (by first | rfl | (simp; done))) | (with_reducible refine Box.drew ?_) | (with_reducible refine Box.drewN ?_ _) | (with_reducible refine Box.alloc ?_ _) | (with_reducible apply Box.setE) | ((with_reducible apply Box.otherE); first | (exact (by omega)) | (exact (by simp)) | (exact (by simp; omega))) | (exact (rfl : Array.setIfInBounds _ _ _ = _)))
          clear hW11
          have DP5 : Hid (RPk (Dom (fun _ => True) [] W11) W11 P5 [.int .i64 P5.src, .int .i64 P5.dst, .slice da20 P5.data.length dc20]) := Lib.hid (good_pk.step HPB.out HV11.out)
          clear HPB hb
          have hx := deliver_any K5 i qa9 qc9 aa9 ac9 W11 (Dom (fun _ => True) [] W11) dom_lt (good_net.step DK.out (Step.trans (Step.trans HS9.out HS10.out) HS11.out))
          rw [C2.out, ← HQ5.out] at hx
          replace HBVK : Hid (Box W11 (v9.heap.size) #[.slice qa9 K5.queue.length qc9, .slice aa9 K5.apart.length ac9] 25) := Lib.hid (HBVK.out.step (Step.trans (Step.trans HS9.out HS10.out) HS11.out) (by (first | omega | (simp; done) | (simp; omega))))
          have qVK_0 := HBVK.out.cell 0 rfl
          have qVK_1 := HBVK.out.cell 1 rfl
          go_wp2_with fail
          refine hx.mono ?_
          rintro e v21 ⟨da21, dc21, qa21, qc21, aa21, ac21, rfl, hpk, hn, hb⟩
          clear hx
          clear qVK_0 qVK_1
          have HPB := Lib.hid (good_pk.back hpk (fun _ _ => trivial) (noL _))
          clear hpk hn
          go_upto_region 19 with (fail)
          refine wp_name ?_
          intro W12 hW12
          have HV12 : Hid (Step [] v21 W12) := by
            rw [hW12]
            refine Lib.hid ?_
            repeat (first | (with_reducible exact (Step.refl [] v21)) | (with_reducible refine Step.drew ?_) | (with_reducible refine Step.drewN ?_ _) | (with_reducible refine Step.alloc ?_ _) | ((with_reducible apply Step.setE); focus (first | (left; simp; done) | (right; simp; done) | (right; simp; omega) | (right; dsimp only; omega) | (right; omega))))
          have HS12 : Hid (Step [] W11 W12) := Lib.hid ((Step.of_below hb).trans HV12.out)
          have HBVQ5 : Hid (Box W12 (v21.heap.size) #[.int .i64 Q5.src, .int .i64 Q5.dst, .slice da21 Q5.data.length dc21] 28) := by
            rw [hW12]
            refine Lib.hid ?_
            repeat (first | (with_reducible exact Box.newE _ _ _ _ (by first | rfl | (simp; done))) | (with_reducible refine Box.drew ?_) | (with_reducible refine Box.drewN ?_ _) | (with_reducible refine Box.alloc ?_ _) | (with_reducible apply Box.setE) | ((with_reducible apply Box.otherE); first | (exact (by omega)) | (exact (by simp)) | (exact (by simp; omega))) | (exact (rfl : Array.setIfInBounds _ _ _ = _)))
          clear hW12
          have DQ5 : Hid (RPk (Dom (fun _ => True) [] W12) W12 Q5 [.int .i64 Q5.src, .int .i64 Q5.dst, .slice da21 Q5.data.length dc21]) := Lib.hid (good_pk.step HPB.out HV12.out)
          clear HPB hb
          have C3' : Hid (((Q5.src == a) && (Q5.dst == b) || (Q5.src == b) && (Q5.dst == a)) = true → samePktB P5 .nil = true) := Lib.hid (fun h => C3.out (by simpa using h))
          have C4' : Hid (((Q5.src == a) && (Q5.dst == b) || (Q5.src == b) && (Q5.dst == a)) = false → samePktB P5 .nil = samePktB Q5 .nil ∧ samePktB P5 Q5 = true) := Lib.hid (fun h => C4.out (fun h2 => by rw [Bool.eq_false_iff] at h; exact h (by simpa using h2)))
          obtain ⟨b1, e1⟩ : ∃ x, (Q5.src == a) = x := ⟨_, rfl⟩
          obtain ⟨b2, e2⟩ : ∃ x, (Q5.dst == b) = x := ⟨_, rfl⟩
          obtain ⟨b3, e3⟩ : ∃ x, (Q5.src == b) = x := ⟨_, rfl⟩
          obtain ⟨b4, e4⟩ : ∃ x, (Q5.dst == a) = x := ⟨_, rfl⟩
          rw [e1, e2, e3, e4] at C3' C4'
          cases b1
          · cases b3
            · have qVQ5_0 := HBVQ5.out.cell 0 rfl
              have qVQ5_1 := HBVQ5.out.cell 1 rfl
              have qVQ5_2 := HBVQ5.out.cell 2 rfl
              go_upto_region 20 with (fail)
              clear qVQ5_0 qVQ5_1 qVQ5_2
              clear e1 e2 e3 e4
              refine wp_name ?_
              intro W13 hW13
              have HV13 : Hid (Step [] W12 W13) := by
                rw [hW13]
                refine Lib.hid ?_
                repeat (first | (with_reducible exact (Step.refl [] W12)) | (with_reducible refine Step.drew ?_) | (with_reducible refine Step.drewN ?_ _) | (with_reducible refine Step.alloc ?_ _) | ((with_reducible apply Step.setE); focus (first | (left; simp; done) | (right; simp; done) | (right; simp; omega) | (right; dsimp only; omega) | (right; omega))))
              have HS13 : Hid (Step [] W12 W13) := Lib.hid HV13.out
              clear hW13
              obtain ⟨f1, f2⟩ := C4'.out (by simp)
              obtain ⟨sv, hsv⟩ : ∃ x, samePktB Q5 .nil = x := ⟨_, rfl⟩
              rw [hsv] at f1
              have F1 := Lib.hid f1
              have F2 := Lib.hid f2
              have F3 := Lib.hid hsv
              clear f1 f2 hsv
              obtain ⟨_, _, e, _, _, _, _, rowP⟩ := (good_pk.now_ (good_pk.step DP5.out (Step.trans HS12.out HS13.out)))
              cases e
              have hx := samePkt_any P5 .nil da20 dc20 none 0 W13 rowP (RRow.nil _)
              rw [F1.out] at hx
              clear rowP
              replace HBVP5 : Hid (Box W13 (v20.heap.size) #[.int .i64 P5.src, .int .i64 P5.dst, .slice da20 P5.data.length dc20] 28) := Lib.hid (HBVP5.out.step (Step.trans HS12.out HS13.out) (by (first | omega | (simp; done) | (simp; omega))))
              have qVP5_0 := HBVP5.out.cell 0 rfl
              have qVP5_1 := HBVP5.out.cell 1 rfl
              have qVP5_2 := HBVP5.out.cell 2 rfl
              go_wp2_with fail
              refine hx.mono ?_
              rintro e v22 ⟨rfl, hb22⟩
              clear hx
              clear qVP5_0 qVP5_1 qVP5_2
              obtain ⟨_, _, e, _, _, _, _, rowQ⟩ := (good_pk.now_ (good_pk.step DQ5.out (HS13.out.trans (Step.of_below hb22))))
              cases e
              have hx := samePkt_any Q5 .nil da21 dc21 none 0 v22 rowQ (RRow.nil _)
              rw [F3.out] at hx
              clear rowQ
              replace HBVQ5 : Hid (Box W13 (v21.heap.size) #[.int .i64 Q5.src, .int .i64 Q5.dst, .slice da21 Q5.data.length dc21] 28) := Lib.hid (HBVQ5.out.step HS13.out (by (first | omega | (simp; done) | (simp; omega))))
              have BVVQ5 := HBVQ5.out.below hb22
              have qVQ5_0 := BVVQ5.cell 0 rfl
              have qVQ5_1 := BVVQ5.cell 1 rfl
              have qVQ5_2 := BVVQ5.cell 2 rfl
              go_wp2_with fail
              refine hx.mono ?_
              rintro e v23 ⟨rfl, hb23⟩
              clear hx
              clear BVVQ5 qVQ5_0 qVQ5_1 qVQ5_2
              have hb24 : Below W13.heap.size W13 v23 := hb22.trans (hb23.mono hb22.size)
              clear hb22 hb23
              obtain ⟨_, _, e, _, _, _, _, rowP⟩ := (good_pk.now_ (good_pk.step DP5.out ((Step.trans HS12.out HS13.out).trans (Step.of_below hb24))))
              cases e
              obtain ⟨_, _, e, _, _, _, _, rowQ⟩ := (good_pk.now_ (good_pk.step DQ5.out (HS13.out.trans (Step.of_below hb24))))
              cases e
              have hx := samePkt_any P5 Q5 da20 dc20 da21 dc21 v23 rowP rowQ
              rw [F2.out] at hx
              clear rowP rowQ
              cases sv
              · have BVVP5 := HBVP5.out.below hb24
                have qVP5_0 := BVVP5.cell 0 rfl
                have qVP5_1 := BVVP5.cell 1 rfl
                have qVP5_2 := BVVP5.cell 2 rfl
                have BVVQ5 := HBVQ5.out.below hb24
                have qVQ5_0 := BVVQ5.cell 0 rfl
                have qVQ5_1 := BVVQ5.cell 1 rfl
                have qVQ5_2 := BVVQ5.cell 2 rfl
                go_wp2_with fail
                refine hx.mono ?_
                rintro e v25 ⟨rfl, hb25⟩
                clear hx
                clear BVVP5 qVP5_0 qVP5_1 qVP5_2 BVVQ5 qVQ5_0 qVQ5_1 qVQ5_2
                go_wp2
                go_ret
                exact ⟨rfl, ((Step.to_below (Step.trans (Step.trans (Step.trans (Step.trans (Step.trans (Step.trans (Step.trans (Step.trans (Step.trans (Step.trans (Step.trans (Step.trans HS1.out HS2.out) HS3.out) HS4.out) HS5.out) HS6.out) HS7.out) HS8.out) HS9.out) HS10.out) HS11.out) HS12.out) HS13.out) (noS w)).trans (hb24.mono (Step.trans (Step.trans (Step.trans (Step.trans (Step.trans (Step.trans (Step.trans (Step.trans (Step.trans (Step.trans (Step.trans (Step.trans HS1.out HS2.out) HS3.out) HS4.out) HS5.out) HS6.out) HS7.out) HS8.out) HS9.out) HS10.out) HS11.out) HS12.out) HS13.out).size)).trans (hb25.mono ((Step.to_below (Step.trans (Step.trans (Step.trans (Step.trans (Step.trans (Step.trans (Step.trans (Step.trans (Step.trans (Step.trans (Step.trans (Step.trans HS1.out HS2.out) HS3.out) HS4.out) HS5.out) HS6.out) HS7.out) HS8.out) HS9.out) HS10.out) HS11.out) HS12.out) HS13.out) (noS w)).trans (hb24.mono (Step.trans (Step.trans (Step.trans (Step.trans (Step.trans (Step.trans (Step.trans (Step.trans (Step.trans (Step.trans (Step.trans (Step.trans HS1.out HS2.out) HS3.out) HS4.out) HS5.out) HS6.out) HS7.out) HS8.out) HS9.out) HS10.out) HS11.out) HS12.out) HS13.out).size)).size)⟩
              · have BVVP5 := HBVP5.out.below hb24
                have qVP5_0 := BVVP5.cell 0 rfl
                have qVP5_1 := BVVP5.cell 1 rfl
                have qVP5_2 := BVVP5.cell 2 rfl
                have BVVQ5 := HBVQ5.out.below hb24
                have qVQ5_0 := BVVQ5.cell 0 rfl
                have qVQ5_1 := BVVQ5.cell 1 rfl
                have qVQ5_2 := BVVQ5.cell 2 rfl
                go_wp2_with fail
                refine hx.mono ?_
                rintro e v25 ⟨rfl, hb25⟩
                clear hx
                clear BVVP5 qVP5_0 qVP5_1 qVP5_2 BVVQ5 qVQ5_0 qVQ5_1 qVQ5_2
                go_wp2
                go_ret
                exact ⟨rfl, ((Step.to_below (Step.trans (Step.trans (Step.trans (Step.trans (Step.trans (Step.trans (Step.trans (Step.trans (Step.trans (Step.trans (Step.trans (Step.trans HS1.out HS2.out) HS3.out) HS4.out) HS5.out) HS6.out) HS7.out) HS8.out) HS9.out) HS10.out) HS11.out) HS12.out) HS13.out) (noS w)).trans (hb24.mono (Step.trans (Step.trans (Step.trans (Step.trans (Step.trans (Step.trans (Step.trans (Step.trans (Step.trans (Step.trans (Step.trans (Step.trans HS1.out HS2.out) HS3.out) HS4.out) HS5.out) HS6.out) HS7.out) HS8.out) HS9.out) HS10.out) HS11.out) HS12.out) HS13.out).size)).trans (hb25.mono ((Step.to_below (Step.trans (Step.trans (Step.trans (Step.trans (Step.trans (Step.trans (Step.trans (Step.trans (Step.trans (Step.trans (Step.trans (Step.trans HS1.out HS2.out) HS3.out) HS4.out) HS5.out) HS6.out) HS7.out) HS8.out) HS9.out) HS10.out) HS11.out) HS12.out) HS13.out) (noS w)).trans (hb24.mono (Step.trans (Step.trans (Step.trans (Step.trans (Step.trans (Step.trans (Step.trans (Step.trans (Step.trans (Step.trans (Step.trans (Step.trans HS1.out HS2.out) HS3.out) HS4.out) HS5.out) HS6.out) HS7.out) HS8.out) HS9.out) HS10.out) HS11.out) HS12.out) HS13.out).size)).size)⟩
            · cases b4
              · have qVQ5_0 := HBVQ5.out.cell 0 rfl
                have qVQ5_1 := HBVQ5.out.cell 1 rfl
                have qVQ5_2 := HBVQ5.out.cell 2 rfl
                go_upto_region 20 with (fail)
                clear qVQ5_0 qVQ5_1 qVQ5_2
                clear e1 e2 e3 e4
                refine wp_name ?_
                intro W13 hW13
                have HV13 : Hid (Step [] W12 W13) := by
                  rw [hW13]
                  refine Lib.hid ?_
                  repeat (first | (with_reducible exact (Step.refl [] W12)) | (with_reducible refine Step.drew ?_) | (with_reducible refine Step.drewN ?_ _) | (with_reducible refine Step.alloc ?_ _) | ((with_reducible apply Step.setE); focus (first | (left; simp; done) | (right; simp; done) | (right; simp; omega) | (right; dsimp only; omega) | (right; omega))))
                have HS13 : Hid (Step [] W12 W13) := Lib.hid HV13.out
                clear hW13
                obtain ⟨f1, f2⟩ := C4'.out (by simp)
                obtain ⟨sv, hsv⟩ : ∃ x, samePktB Q5 .nil = x := ⟨_, rfl⟩
                rw [hsv] at f1
                have F1 := Lib.hid f1
                have F2 := Lib.hid f2
                have F3 := Lib.hid hsv
                clear f1 f2 hsv
                obtain ⟨_, _, e, _, _, _, _, rowP⟩ := (good_pk.now_ (good_pk.step DP5.out (Step.trans HS12.out HS13.out)))
                cases e
                have hx := samePkt_any P5 .nil da20 dc20 none 0 W13 rowP (RRow.nil _)
                rw [F1.out] at hx
                clear rowP
                replace HBVP5 : Hid (Box W13 (v20.heap.size) #[.int .i64 P5.src, .int .i64 P5.dst, .slice da20 P5.data.length dc20] 28) := Lib.hid (HBVP5.out.step (Step.trans HS12.out HS13.out) (by (first | omega | (simp; done) | (simp; omega))))
                have qVP5_0 := HBVP5.out.cell 0 rfl
                have qVP5_1 := HBVP5.out.cell 1 rfl
                have qVP5_2 := HBVP5.out.cell 2 rfl
                go_wp2_with fail
                refine hx.mono ?_
                rintro e v22 ⟨rfl, hb22⟩
                clear hx
                clear qVP5_0 qVP5_1 qVP5_2
                obtain ⟨_, _, e, _, _, _, _, rowQ⟩ := (good_pk.now_ (good_pk.step DQ5.out (HS13.out.trans (Step.of_below hb22))))
                cases e
                have hx := samePkt_any Q5 .nil da21 dc21 none 0 v22 rowQ (RRow.nil _)
                rw [F3.out] at hx
                clear rowQ
                replace HBVQ5 : Hid (Box W13 (v21.heap.size) #[.int .i64 Q5.src, .int .i64 Q5.dst, .slice da21 Q5.data.length dc21] 28) := Lib.hid (HBVQ5.out.step HS13.out (by (first | omega | (simp; done) | (simp; omega))))
                have BVVQ5 := HBVQ5.out.below hb22
                have qVQ5_0 := BVVQ5.cell 0 rfl
                have qVQ5_1 := BVVQ5.cell 1 rfl
                have qVQ5_2 := BVVQ5.cell 2 rfl
                go_wp2_with fail
                refine hx.mono ?_
                rintro e v23 ⟨rfl, hb23⟩
                clear hx
                clear BVVQ5 qVQ5_0 qVQ5_1 qVQ5_2
                have hb24 : Below W13.heap.size W13 v23 := hb22.trans (hb23.mono hb22.size)
                clear hb22 hb23
                obtain ⟨_, _, e, _, _, _, _, rowP⟩ := (good_pk.now_ (good_pk.step DP5.out ((Step.trans HS12.out HS13.out).trans (Step.of_below hb24))))
                cases e
                obtain ⟨_, _, e, _, _, _, _, rowQ⟩ := (good_pk.now_ (good_pk.step DQ5.out (HS13.out.trans (Step.of_below hb24))))
                cases e
                have hx := samePkt_any P5 Q5 da20 dc20 da21 dc21 v23 rowP rowQ
                rw [F2.out] at hx
                clear rowP rowQ
                cases sv
                · have BVVP5 := HBVP5.out.below hb24
                  have qVP5_0 := BVVP5.cell 0 rfl
                  have qVP5_1 := BVVP5.cell 1 rfl
                  have qVP5_2 := BVVP5.cell 2 rfl
                  have BVVQ5 := HBVQ5.out.below hb24
                  have qVQ5_0 := BVVQ5.cell 0 rfl
                  have qVQ5_1 := BVVQ5.cell 1 rfl
                  have qVQ5_2 := BVVQ5.cell 2 rfl
                  go_wp2_with fail
                  refine hx.mono ?_
                  rintro e v25 ⟨rfl, hb25⟩
                  clear hx
                  clear BVVP5 qVP5_0 qVP5_1 qVP5_2 BVVQ5 qVQ5_0 qVQ5_1 qVQ5_2
                  go_wp2
                  go_ret
                  exact ⟨rfl, ((Step.to_below (Step.trans (Step.trans (Step.trans (Step.trans (Step.trans (Step.trans (Step.trans (Step.trans (Step.trans (Step.trans (Step.trans (Step.trans HS1.out HS2.out) HS3.out) HS4.out) HS5.out) HS6.out) HS7.out) HS8.out) HS9.out) HS10.out) HS11.out) HS12.out) HS13.out) (noS w)).trans (hb24.mono (Step.trans (Step.trans (Step.trans (Step.trans (Step.trans (Step.trans (Step.trans (Step.trans (Step.trans (Step.trans (Step.trans (Step.trans HS1.out HS2.out) HS3.out) HS4.out) HS5.out) HS6.out) HS7.out) HS8.out) HS9.out) HS10.out) HS11.out) HS12.out) HS13.out).size)).trans (hb25.mono ((Step.to_below (Step.trans (Step.trans (Step.trans (Step.trans (Step.trans (Step.trans (Step.trans (Step.trans (Step.trans (Step.trans (Step.trans (Step.trans HS1.out HS2.out) HS3.out) HS4.out) HS5.out) HS6.out) HS7.out) HS8.out) HS9.out) HS10.out) HS11.out) HS12.out) HS13.out) (noS w)).trans (hb24.mono (Step.trans (Step.trans (Step.trans (Step.trans (Step.trans (Step.trans (Step.trans (Step.trans (Step.trans (Step.trans (Step.trans (Step.trans HS1.out HS2.out) HS3.out) HS4.out) HS5.out) HS6.out) HS7.out) HS8.out) HS9.out) HS10.out) HS11.out) HS12.out) HS13.out).size)).size)⟩
                · have BVVP5 := HBVP5.out.below hb24
                  have qVP5_0 := BVVP5.cell 0 rfl
                  have qVP5_1 := BVVP5.cell 1 rfl
                  have qVP5_2 := BVVP5.cell 2 rfl
                  have BVVQ5 := HBVQ5.out.below hb24
                  have qVQ5_0 := BVVQ5.cell 0 rfl
                  have qVQ5_1 := BVVQ5.cell 1 rfl
                  have qVQ5_2 := BVVQ5.cell 2 rfl
                  go_wp2_with fail
                  refine hx.mono ?_
                  rintro e v25 ⟨rfl, hb25⟩
                  clear hx
                  clear BVVP5 qVP5_0 qVP5_1 qVP5_2 BVVQ5 qVQ5_0 qVQ5_1 qVQ5_2
                  go_wp2
                  go_ret
                  exact ⟨rfl, ((Step.to_below (Step.trans (Step.trans (Step.trans (Step.trans (Step.trans (Step.trans (Step.trans (Step.trans (Step.trans (Step.trans (Step.trans (Step.trans HS1.out HS2.out) HS3.out) HS4.out) HS5.out) HS6.out) HS7.out) HS8.out) HS9.out) HS10.out) HS11.out) HS12.out) HS13.out) (noS w)).trans (hb24.mono (Step.trans (Step.trans (Step.trans (Step.trans (Step.trans (Step.trans (Step.trans (Step.trans (Step.trans (Step.trans (Step.trans (Step.trans HS1.out HS2.out) HS3.out) HS4.out) HS5.out) HS6.out) HS7.out) HS8.out) HS9.out) HS10.out) HS11.out) HS12.out) HS13.out).size)).trans (hb25.mono ((Step.to_below (Step.trans (Step.trans (Step.trans (Step.trans (Step.trans (Step.trans (Step.trans (Step.trans (Step.trans (Step.trans (Step.trans (Step.trans HS1.out HS2.out) HS3.out) HS4.out) HS5.out) HS6.out) HS7.out) HS8.out) HS9.out) HS10.out) HS11.out) HS12.out) HS13.out) (noS w)).trans (hb24.mono (Step.trans (Step.trans (Step.trans (Step.trans (Step.trans (Step.trans (Step.trans (Step.trans (Step.trans (Step.trans (Step.trans (Step.trans HS1.out HS2.out) HS3.out) HS4.out) HS5.out) HS6.out) HS7.out) HS8.out) HS9.out) HS10.out) HS11.out) HS12.out) HS13.out).size)).size)⟩
              · have qVQ5_0 := HBVQ5.out.cell 0 rfl
                have qVQ5_1 := HBVQ5.out.cell 1 rfl
                have qVQ5_2 := HBVQ5.out.cell 2 rfl
                go_upto_region 20 with (fail)
                clear qVQ5_0 qVQ5_1 qVQ5_2
                clear e1 e2 e3 e4
                refine wp_name ?_
                intro W13 hW13
                have HV13 : Hid (Step [] W12 W13) := by
                  rw [hW13]
                  refine Lib.hid ?_
                  repeat (first | (with_reducible exact (Step.refl [] W12)) | (with_reducible refine Step.drew ?_) | (with_reducible refine Step.drewN ?_ _) | (with_reducible refine Step.alloc ?_ _) | ((with_reducible apply Step.setE); focus (first | (left; simp; done) | (right; simp; done) | (right; simp; omega) | (right; dsimp only; omega) | (right; omega))))
                have HS13 : Hid (Step [] W12 W13) := Lib.hid HV13.out
                clear hW13
                obtain ⟨_, _, e, _, _, _, _, rowP⟩ := (good_pk.now_ (good_pk.step DP5.out (Step.trans HS12.out HS13.out)))
                cases e
                have hx := samePkt_any P5 .nil da20 dc20 none 0 W13 rowP (RRow.nil _)
                rw [C3'.out (by simp)] at hx
                clear rowP
                replace HBVP5 : Hid (Box W13 (v20.heap.size) #[.int .i64 P5.src, .int .i64 P5.dst, .slice da20 P5.data.length dc20] 28) := Lib.hid (HBVP5.out.step (Step.trans HS12.out HS13.out) (by (first | omega | (simp; done) | (simp; omega))))
                have qVP5_0 := HBVP5.out.cell 0 rfl
                have qVP5_1 := HBVP5.out.cell 1 rfl
                have qVP5_2 := HBVP5.out.cell 2 rfl
                go_wp2_with fail
                refine hx.mono ?_
                rintro e v22 ⟨rfl, hb22⟩
                clear hx
                clear qVP5_0 qVP5_1 qVP5_2
                go_wp2
                go_ret
                exact ⟨rfl, ((Step.to_below (Step.trans (Step.trans (Step.trans (Step.trans (Step.trans (Step.trans (Step.trans (Step.trans (Step.trans (Step.trans (Step.trans (Step.trans HS1.out HS2.out) HS3.out) HS4.out) HS5.out) HS6.out) HS7.out) HS8.out) HS9.out) HS10.out) HS11.out) HS12.out) HS13.out) (noS w)).trans (hb22.mono (Step.trans (Step.trans (Step.trans (Step.trans (Step.trans (Step.trans (Step.trans (Step.trans (Step.trans (Step.trans (Step.trans (Step.trans HS1.out HS2.out) HS3.out) HS4.out) HS5.out) HS6.out) HS7.out) HS8.out) HS9.out) HS10.out) HS11.out) HS12.out) HS13.out).size))⟩
          · cases b2
            · cases b3
              · have qVQ5_0 := HBVQ5.out.cell 0 rfl
                have qVQ5_1 := HBVQ5.out.cell 1 rfl
                have qVQ5_2 := HBVQ5.out.cell 2 rfl
                go_upto_region 20 with (fail)
                clear qVQ5_0 qVQ5_1 qVQ5_2
                clear e1 e2 e3 e4
                refine wp_name ?_
                intro W13 hW13
                have HV13 : Hid (Step [] W12 W13) := by
                  rw [hW13]
                  refine Lib.hid ?_
                  repeat (first | (with_reducible exact (Step.refl [] W12)) | (with_reducible refine Step.drew ?_) | (with_reducible refine Step.drewN ?_ _) | (with_reducible refine Step.alloc ?_ _) | ((with_reducible apply Step.setE); focus (first | (left; simp; done) | (right; simp; done) | (right; simp; omega) | (right; dsimp only; omega) | (right; omega))))
                have HS13 : Hid (Step [] W12 W13) := Lib.hid HV13.out
                clear hW13
                obtain ⟨f1, f2⟩ := C4'.out (by simp)
                obtain ⟨sv, hsv⟩ : ∃ x, samePktB Q5 .nil = x := ⟨_, rfl⟩
                rw [hsv] at f1
                have F1 := Lib.hid f1
                have F2 := Lib.hid f2
                have F3 := Lib.hid hsv
                clear f1 f2 hsv
                obtain ⟨_, _, e, _, _, _, _, rowP⟩ := (good_pk.now_ (good_pk.step DP5.out (Step.trans HS12.out HS13.out)))
                cases e
                have hx := samePkt_any P5 .nil da20 dc20 none 0 W13 rowP (RRow.nil _)
                rw [F1.out] at hx
                clear rowP
                replace HBVP5 : Hid (Box W13 (v20.heap.size) #[.int .i64 P5.src, .int .i64 P5.dst, .slice da20 P5.data.length dc20] 28) := Lib.hid (HBVP5.out.step (Step.trans HS12.out HS13.out) (by (first | omega | (simp; done) | (simp; omega))))
                have qVP5_0 := HBVP5.out.cell 0 rfl
                have qVP5_1 := HBVP5.out.cell 1 rfl
                have qVP5_2 := HBVP5.out.cell 2 rfl
                go_wp2_with fail
                refine hx.mono ?_
                rintro e v22 ⟨rfl, hb22⟩
                clear hx
                clear qVP5_0 qVP5_1 qVP5_2
                obtain ⟨_, _, e, _, _, _, _, rowQ⟩ := (good_pk.now_ (good_pk.step DQ5.out (HS13.out.trans (Step.of_below hb22))))
                cases e
                have hx := samePkt_any Q5 .nil da21 dc21 none 0 v22 rowQ (RRow.nil _)
                rw [F3.out] at hx
                clear rowQ
                replace HBVQ5 : Hid (Box W13 (v21.heap.size) #[.int .i64 Q5.src, .int .i64 Q5.dst, .slice da21 Q5.data.length dc21] 28) := Lib.hid (HBVQ5.out.step HS13.out (by (first | omega | (simp; done) | (simp; omega))))
                have BVVQ5 := HBVQ5.out.below hb22
                have qVQ5_0 := BVVQ5.cell 0 rfl
                have qVQ5_1 := BVVQ5.cell 1 rfl
                have qVQ5_2 := BVVQ5.cell 2 rfl
                go_wp2_with fail
                refine hx.mono ?_
                rintro e v23 ⟨rfl, hb23⟩
                clear hx
                clear BVVQ5 qVQ5_0 qVQ5_1 qVQ5_2
                have hb24 : Below W13.heap.size W13 v23 := hb22.trans (hb23.mono hb22.size)
                clear hb22 hb23
                obtain ⟨_, _, e, _, _, _, _, rowP⟩ := (good_pk.now_ (good_pk.step DP5.out ((Step.trans HS12.out HS13.out).trans (Step.of_below hb24))))
                cases e
                obtain ⟨_, _, e, _, _, _, _, rowQ⟩ := (good_pk.now_ (good_pk.step DQ5.out (HS13.out.trans (Step.of_below hb24))))
                cases e
                have hx := samePkt_any P5 Q5 da20 dc20 da21 dc21 v23 rowP rowQ
                rw [F2.out] at hx
                clear rowP rowQ
                cases sv
                · have BVVP5 := HBVP5.out.below hb24
                  have qVP5_0 := BVVP5.cell 0 rfl
                  have qVP5_1 := BVVP5.cell 1 rfl
                  have qVP5_2 := BVVP5.cell 2 rfl
                  have BVVQ5 := HBVQ5.out.below hb24
                  have qVQ5_0 := BVVQ5.cell 0 rfl
                  have qVQ5_1 := BVVQ5.cell 1 rfl
                  have qVQ5_2 := BVVQ5.cell 2 rfl
                  go_wp2_with fail
                  refine hx.mono ?_
                  rintro e v25 ⟨rfl, hb25⟩
                  clear hx
                  clear BVVP5 qVP5_0 qVP5_1 qVP5_2 BVVQ5 qVQ5_0 qVQ5_1 qVQ5_2
                  go_wp2
                  go_ret
                  exact ⟨rfl, ((Step.to_below (Step.trans (Step.trans (Step.trans (Step.trans (Step.trans (Step.trans (Step.trans (Step.trans (Step.trans (Step.trans (Step.trans (Step.trans HS1.out HS2.out) HS3.out) HS4.out) HS5.out) HS6.out) HS7.out) HS8.out) HS9.out) HS10.out) HS11.out) HS12.out) HS13.out) (noS w)).trans (hb24.mono (Step.trans (Step.trans (Step.trans (Step.trans (Step.trans (Step.trans (Step.trans (Step.trans (Step.trans (Step.trans (Step.trans (Step.trans HS1.out HS2.out) HS3.out) HS4.out) HS5.out) HS6.out) HS7.out) HS8.out) HS9.out) HS10.out) HS11.out) HS12.out) HS13.out).size)).trans (hb25.mono ((Step.to_below (Step.trans (Step.trans (Step.trans (Step.trans (Step.trans (Step.trans (Step.trans (Step.trans (Step.trans (Step.trans (Step.trans (Step.trans HS1.out HS2.out) HS3.out) HS4.out) HS5.out) HS6.out) HS7.out) HS8.out) HS9.out) HS10.out) HS11.out) HS12.out) HS13.out) (noS w)).trans (hb24.mono (Step.trans (Step.trans (Step.trans (Step.trans (Step.trans (Step.trans (Step.trans (Step.trans (Step.trans (Step.trans (Step.trans (Step.trans HS1.out HS2.out) HS3.out) HS4.out) HS5.out) HS6.out) HS7.out) HS8.out) HS9.out) HS10.out) HS11.out) HS12.out) HS13.out).size)).size)⟩
                · have BVVP5 := HBVP5.out.below hb24
                  have qVP5_0 := BVVP5.cell 0 rfl
                  have qVP5_1 := BVVP5.cell 1 rfl
                  have qVP5_2 := BVVP5.cell 2 rfl
                  have BVVQ5 := HBVQ5.out.below hb24
                  have qVQ5_0 := BVVQ5.cell 0 rfl
                  have qVQ5_1 := BVVQ5.cell 1 rfl
                  have qVQ5_2 := BVVQ5.cell 2 rfl
                  go_wp2_with fail
                  refine hx.mono ?_
                  rintro e v25 ⟨rfl, hb25⟩
                  clear hx
                  clear BVVP5 qVP5_0 qVP5_1 qVP5_2 BVVQ5 qVQ5_0 qVQ5_1 qVQ5_2
                  go_wp2
                  go_ret
                  exact ⟨rfl, ((Step.to_below (Step.trans (Step.trans (Step.trans (Step.trans (Step.trans (Step.trans (Step.trans (Step.trans (Step.trans (Step.trans (Step.trans (Step.trans HS1.out HS2.out) HS3.out) HS4.out) HS5.out) HS6.out) HS7.out) HS8.out) HS9.out) HS10.out) HS11.out) HS12.out) HS13.out) (noS w)).trans (hb24.mono (Step.trans (Step.trans (Step.trans (Step.trans (Step.trans (Step.trans (Step.trans (Step.trans (Step.trans (Step.trans (Step.trans (Step.trans HS1.out HS2.out) HS3.out) HS4.out) HS5.out) HS6.out) HS7.out) HS8.out) HS9.out) HS10.out) HS11.out) HS12.out) HS13.out).size)).trans (hb25.mono ((Step.to_below (Step.trans (Step.trans (Step.trans (Step.trans (Step.trans (Step.trans (Step.trans (Step.trans (Step.trans (Step.trans (Step.trans (Step.trans HS1.out HS2.out) HS3.out) HS4.out) HS5.out) HS6.out) HS7.out) HS8.out) HS9.out) HS10.out) HS11.out) HS12.out) HS13.out) (noS w)).trans (hb24.mono (Step.trans (Step.trans (Step.trans (Step.trans (Step.trans (Step.trans (Step.trans (Step.trans (Step.trans (Step.trans (Step.trans (Step.trans HS1.out HS2.out) HS3.out) HS4.out) HS5.out) HS6.out) HS7.out) HS8.out) HS9.out) HS10.out) HS11.out) HS12.out) HS13.out).size)).size)⟩
              · cases b4
                · have qVQ5_0 := HBVQ5.out.cell 0 rfl
                  have qVQ5_1 := HBVQ5.out.cell 1 rfl
                  have qVQ5_2 := HBVQ5.out.cell 2 rfl
                  go_upto_region 20 with (fail)
                  clear qVQ5_0 qVQ5_1 qVQ5_2
                  clear e1 e2 e3 e4
                  refine wp_name ?_
                  intro W13 hW13
                  have HV13 : Hid (Step [] W12 W13) := by
                    rw [hW13]
                    refine Lib.hid ?_
                    repeat (first | (with_reducible exact (Step.refl [] W12)) | (with_reducible refine Step.drew ?_) | (with_reducible refine Step.drewN ?_ _) | (with_reducible refine Step.alloc ?_ _) | ((with_reducible apply Step.setE); focus (first | (left; simp; done) | (right; simp; done) | (right; simp; omega) | (right; dsimp only; omega) | (right; omega))))
                  have HS13 : Hid (Step [] W12 W13) := Lib.hid HV13.out
                  clear hW13
                  obtain ⟨f1, f2⟩ := C4'.out (by simp)
                  obtain ⟨sv, hsv⟩ : ∃ x, samePktB Q5 .nil = x := ⟨_, rfl⟩
                  rw [hsv] at f1
                  have F1 := Lib.hid f1
                  have F2 := Lib.hid f2
                  have F3 := Lib.hid hsv
                  clear f1 f2 hsv
                  obtain ⟨_, _, e, _, _, _, _, rowP⟩ := (good_pk.now_ (good_pk.step DP5.out (Step.trans HS12.out HS13.out)))
                  cases e
                  have hx := samePkt_any P5 .nil da20 dc20 none 0 W13 rowP (RRow.nil _)
                  rw [F1.out] at hx
                  clear rowP
                  replace HBVP5 : Hid (Box W13 (v20.heap.size) #[.int .i64 P5.src, .int .i64 P5.dst, .slice da20 P5.data.length dc20] 28) := Lib.hid (HBVP5.out.step (Step.trans HS12.out HS13.out) (by (first | omega | (simp; done) | (simp; omega))))
                  have qVP5_0 := HBVP5.out.cell 0 rfl
                  have qVP5_1 := HBVP5.out.cell 1 rfl
                  have qVP5_2 := HBVP5.out.cell 2 rfl
                  go_wp2_with fail
                  refine hx.mono ?_
                  rintro e v22 ⟨rfl, hb22⟩
                  clear hx
                  clear qVP5_0 qVP5_1 qVP5_2
                  obtain ⟨_, _, e, _, _, _, _, rowQ⟩ := (good_pk.now_ (good_pk.step DQ5.out (HS13.out.trans (Step.of_below hb22))))
                  cases e
                  have hx := samePkt_any Q5 .nil da21 dc21 none 0 v22 rowQ (RRow.nil _)
                  rw [F3.out] at hx
                  clear rowQ
                  replace HBVQ5 : Hid (Box W13 (v21.heap.size) #[.int .i64 Q5.src, .int .i64 Q5.dst, .slice da21 Q5.data.length dc21] 28) := Lib.hid (HBVQ5.out.step HS13.out (by (first | omega | (simp; done) | (simp; omega))))
                  have BVVQ5 := HBVQ5.out.below hb22
                  have qVQ5_0 := BVVQ5.cell 0 rfl
                  have qVQ5_1 := BVVQ5.cell 1 rfl
                  have qVQ5_2 := BVVQ5.cell 2 rfl
                  go_wp2_with fail
                  refine hx.mono ?_
                  rintro e v23 ⟨rfl, hb23⟩
                  clear hx
                  clear BVVQ5 qVQ5_0 qVQ5_1 qVQ5_2
                  have hb24 : Below W13.heap.size W13 v23 := hb22.trans (hb23.mono hb22.size)
                  clear hb22 hb23
                  obtain ⟨_, _, e, _, _, _, _, rowP⟩ := (good_pk.now_ (good_pk.step DP5.out ((Step.trans HS12.out HS13.out).trans (Step.of_below hb24))))
                  cases e
                  obtain ⟨_, _, e, _, _, _, _, rowQ⟩ := (good_pk.now_ (good_pk.step DQ5.out (HS13.out.trans (Step.of_below hb24))))
                  cases e
                  have hx := samePkt_any P5 Q5 da20 dc20 da21 dc21 v23 rowP rowQ
                  rw [F2.out] at hx
                  clear rowP rowQ
                  cases sv
                  · have BVVP5 := HBVP5.out.below hb24
                    have qVP5_0 := BVVP5.cell 0 rfl
                    have qVP5_1 := BVVP5.cell 1 rfl
                    have qVP5_2 := BVVP5.cell 2 rfl
                    have BVVQ5 := HBVQ5.out.below hb24
                    have qVQ5_0 := BVVQ5.cell 0 rfl
                    have qVQ5_1 := BVVQ5.cell 1 rfl
                    have qVQ5_2 := BVVQ5.cell 2 rfl
                    go_wp2_with fail
                    refine hx.mono ?_
                    rintro e v25 ⟨rfl, hb25⟩
                    clear hx
                    clear BVVP5 qVP5_0 qVP5_1 qVP5_2 BVVQ5 qVQ5_0 qVQ5_1 qVQ5_2
                    go_wp2
                    go_ret
                    exact ⟨rfl, ((Step.to_below (Step.trans (Step.trans (Step.trans (Step.trans (Step.trans (Step.trans (Step.trans (Step.trans (Step.trans (Step.trans (Step.trans (Step.trans HS1.out HS2.out) HS3.out) HS4.out) HS5.out) HS6.out) HS7.out) HS8.out) HS9.out) HS10.out) HS11.out) HS12.out) HS13.out) (noS w)).trans (hb24.mono (Step.trans (Step.trans (Step.trans (Step.trans (Step.trans (Step.trans (Step.trans (Step.trans (Step.trans (Step.trans (Step.trans (Step.trans HS1.out HS2.out) HS3.out) HS4.out) HS5.out) HS6.out) HS7.out) HS8.out) HS9.out) HS10.out) HS11.out) HS12.out) HS13.out).size)).trans (hb25.mono ((Step.to_below (Step.trans (Step.trans (Step.trans (Step.trans (Step.trans (Step.trans (Step.trans (Step.trans (Step.trans (Step.trans (Step.trans (Step.trans HS1.out HS2.out) HS3.out) HS4.out) HS5.out) HS6.out) HS7.out) HS8.out) HS9.out) HS10.out) HS11.out) HS12.out) HS13.out) (noS w)).trans (hb24.mono (Step.trans (Step.trans (Step.trans (Step.trans (Step.trans (Step.trans (Step.trans (Step.trans (Step.trans (Step.trans (Step.trans (Step.trans HS1.out HS2.out) HS3.out) HS4.out) HS5.out) HS6.out) HS7.out) HS8.out) HS9.out) HS10.out) HS11.out) HS12.out) HS13.out).size)).size)⟩
                  · have BVVP5 := HBVP5.out.below hb24
                    have qVP5_0 := BVVP5.cell 0 rfl
                    have qVP5_1 := BVVP5.cell 1 rfl
                    have qVP5_2 := BVVP5.cell 2 rfl
                    have BVVQ5 := HBVQ5.out.below hb24
                    have qVQ5_0 := BVVQ5.cell 0 rfl
                    have qVQ5_1 := BVVQ5.cell 1 rfl
                    have qVQ5_2 := BVVQ5.cell 2 rfl
                    go_wp2_with fail
                    refine hx.mono ?_
                    rintro e v25 ⟨rfl, hb25⟩
                    clear hx
                    clear BVVP5 qVP5_0 qVP5_1 qVP5_2 BVVQ5 qVQ5_0 qVQ5_1 qVQ5_2
                    go_wp2
                    go_ret
                    exact ⟨rfl, ((Step.to_below (Step.trans (Step.trans (Step.trans (Step.trans (Step.trans (Step.trans (Step.trans (Step.trans (Step.trans (Step.trans (Step.trans (Step.trans HS1.out HS2.out) HS3.out) HS4.out) HS5.out) HS6.out) HS7.out) HS8.out) HS9.out) HS10.out) HS11.out) HS12.out) HS13.out) (noS w)).trans (hb24.mono (Step.trans (Step.trans (Step.trans (Step.trans (Step.trans (Step.trans (Step.trans (Step.trans (Step.trans (Step.trans (Step.trans (Step.trans HS1.out HS2.out) HS3.out) HS4.out) HS5.out) HS6.out) HS7.out) HS8.out) HS9.out) HS10.out) HS11.out) HS12.out) HS13.out).size)).trans (hb25.mono ((Step.to_below (Step.trans (Step.trans (Step.trans (Step.trans (Step.trans (Step.trans (Step.trans (Step.trans (Step.trans (Step.trans (Step.trans (Step.trans HS1.out HS2.out) HS3.out) HS4.out) HS5.out) HS6.out) HS7.out) HS8.out) HS9.out) HS10.out) HS11.out) HS12.out) HS13.out) (noS w)).trans (hb24.mono (Step.trans (Step.trans (Step.trans (Step.trans (Step.trans (Step.trans (Step.trans (Step.trans (Step.trans (Step.trans (Step.trans (Step.trans HS1.out HS2.out) HS3.out) HS4.out) HS5.out) HS6.out) HS7.out) HS8.out) HS9.out) HS10.out) HS11.out) HS12.out) HS13.out).size)).size)⟩
                · have qVQ5_0 := HBVQ5.out.cell 0 rfl
                  have qVQ5_1 := HBVQ5.out.cell 1 rfl
                  have qVQ5_2 := HBVQ5.out.cell 2 rfl
                  go_upto_region 20 with (fail)
                  clear qVQ5_0 qVQ5_1 qVQ5_2
                  clear e1 e2 e3 e4
                  refine wp_name ?_
                  intro W13 hW13
                  have HV13 : Hid (Step [] W12 W13) := by
                    rw [hW13]
                    refine Lib.hid ?_
                    repeat (first | (with_reducible exact (Step.refl [] W12)) | (with_reducible refine Step.drew ?_) | (with_reducible refine Step.drewN ?_ _) | (with_reducible refine Step.alloc ?_ _) | ((with_reducible apply Step.setE); focus (first | (left; simp; done) | (right; simp; done) | (right; simp; omega) | (right; dsimp only; omega) | (right; omega))))
                  have HS13 : Hid (Step [] W12 W13) := Lib.hid HV13.out
                  clear hW13
                  obtain ⟨_, _, e, _, _, _, _, rowP⟩ := (good_pk.now_ (good_pk.step DP5.out (Step.trans HS12.out HS13.out)))
                  cases e
                  have hx := samePkt_any P5 .nil da20 dc20 none 0 W13 rowP (RRow.nil _)
                  rw [C3'.out (by simp)] at hx
                  clear rowP
                  replace HBVP5 : Hid (Box W13 (v20.heap.size) #[.int .i64 P5.src, .int .i64 P5.dst, .slice da20 P5.data.length dc20] 28) := Lib.hid (HBVP5.out.step (Step.trans HS12.out HS13.out) (by (first | omega | (simp; done) | (simp; omega))))
                  have qVP5_0 := HBVP5.out.cell 0 rfl
                  have qVP5_1 := HBVP5.out.cell 1 rfl
                  have qVP5_2 := HBVP5.out.cell 2 rfl
                  go_wp2_with fail
                  refine hx.mono ?_
                  rintro e v22 ⟨rfl, hb22⟩
                  clear hx
                  clear qVP5_0 qVP5_1 qVP5_2
                  go_wp2
                  go_ret
                  exact ⟨rfl, ((Step.to_below (Step.trans (Step.trans (Step.trans (Step.trans (Step.trans (Step.trans (Step.trans (Step.trans (Step.trans (Step.trans (Step.trans (Step.trans HS1.out HS2.out) HS3.out) HS4.out) HS5.out) HS6.out) HS7.out) HS8.out) HS9.out) HS10.out) HS11.out) HS12.out) HS13.out) (noS w)).trans (hb22.mono (Step.trans (Step.trans (Step.trans (Step.trans (Step.trans (Step.trans (Step.trans (Step.trans (Step.trans (Step.trans (Step.trans (Step.trans HS1.out HS2.out) HS3.out) HS4.out) HS5.out) HS6.out) HS7.out) HS8.out) HS9.out) HS10.out) HS11.out) HS12.out) HS13.out).size))⟩
            · have qVQ5_0 := HBVQ5.out.cell 0 rfl
              have qVQ5_1 := HBVQ5.out.cell 1 rfl
              have qVQ5_2 := HBVQ5.out.cell 2 rfl
              go_upto_region 20 with (fail)
              clear qVQ5_0 qVQ5_1 qVQ5_2
              clear e1 e2 e3 e4
              refine wp_name ?_
              intro W13 hW13
              have HV13 : Hid (Step [] W12 W13) := by
                rw [hW13]
                refine Lib.hid ?_
                repeat (first | (with_reducible exact (Step.refl [] W12)) | (with_reducible refine Step.drew ?_) | (with_reducible refine Step.drewN ?_ _) | (with_reducible refine Step.alloc ?_ _) | ((with_reducible apply Step.setE); focus (first | (left; simp; done) | (right; simp; done) | (right; simp; omega) | (right; dsimp only; omega) | (right; omega))))
              have HS13 : Hid (Step [] W12 W13) := Lib.hid HV13.out
              clear hW13
              obtain ⟨_, _, e, _, _, _, _, rowP⟩ := (good_pk.now_ (good_pk.step DP5.out (Step.trans HS12.out HS13.out)))
              cases e
              have hx := samePkt_any P5 .nil da20 dc20 none 0 W13 rowP (RRow.nil _)
              rw [C3'.out (by simp)] at hx
              clear rowP
              replace HBVP5 : Hid (Box W13 (v20.heap.size) #[.int .i64 P5.src, .int .i64 P5.dst, .slice da20 P5.data.length dc20] 28) := Lib.hid (HBVP5.out.step (Step.trans HS12.out HS13.out) (by (first | omega | (simp; done) | (simp; omega))))
              have qVP5_0 := HBVP5.out.cell 0 rfl
              have qVP5_1 := HBVP5.out.cell 1 rfl
              have qVP5_2 := HBVP5.out.cell 2 rfl
              go_wp2_with fail
              refine hx.mono ?_
              rintro e v22 ⟨rfl, hb22⟩
              clear hx
              clear qVP5_0 qVP5_1 qVP5_2
              go_wp2
              go_ret
              exact ⟨rfl, ((Step.to_below (Step.trans (Step.trans (Step.trans (Step.trans (Step.trans (Step.trans (Step.trans (Step.trans (Step.trans (Step.trans (Step.trans (Step.trans HS1.out HS2.out) HS3.out) HS4.out) HS5.out) HS6.out) HS7.out) HS8.out) HS9.out) HS10.out) HS11.out) HS12.out) HS13.out) (noS w)).trans (hb22.mono (Step.trans (Step.trans (Step.trans (Step.trans (Step.trans (Step.trans (Step.trans (Step.trans (Step.trans (Step.trans (Step.trans (Step.trans HS1.out HS2.out) HS3.out) HS4.out) HS5.out) HS6.out) HS7.out) HS8.out) HS9.out) HS10.out) HS11.out) HS12.out) HS13.out).size))⟩
        · replace HBN : Hid (Box W9 (w.heap.size) #[.slice qa n.queue.length qc, .slice aa n.apart.length ac] 25) := Lib.hid (HBN.out.step (Step.trans HS8.out HS9.out) (by (first | omega | (simp; done) | (simp; omega))))
          have qN_0 := HBN.out.cell 0 rfl
          have qN_1 := HBN.out.cell 1 rfl
          have h0' : n.queue.length = 0 := by omega
          go_wp2
          go_ret
          exact ⟨rfl, (Step.to_below (Step.trans (Step.trans (Step.trans (Step.trans (Step.trans (Step.trans (Step.trans (Step.trans HS1.out HS2.out) HS3.out) HS4.out) HS5.out) HS6.out) HS7.out) HS8.out) HS9.out) (noS w))⟩
      · have HCE := Lib.hid hce
        clear hce
        have hx := cut_any n a b true qa qc aa ac W3 (Dom (fun _ => True) [] W3) dom_lt (good_net.step DN.out (Step.trans HS2.out HS3.out))
        rw [HCE.out] at hx
        replace HBN : Hid (Box W3 (w.heap.size) #[.slice qa n.queue.length qc, .slice aa n.apart.length ac] 25) := Lib.hid (HBN.out.step HS3.out (by (first | omega | (simp; done) | (simp; omega))))
        have qN_0 := HBN.out.cell 0 rfl
        have qN_1 := HBN.out.cell 1 rfl
        go_wp2_with fail
        refine hx.mono ?_
        rintro e v5 ⟨qa5, qc5, aa5, ac5, rfl, hn, hb⟩
        clear hx
        clear qN_0 qN_1
        have HNB := Lib.hid (good_net.back hn (fun _ _ => trivial) (noL _))
        clear hn
        go_upto_region 6 with (fail)
        refine wp_name ?_
        intro W4 hW4
        have HV4 : Hid (Step [] v5 W4) := by
          rw [hW4]
          refine Lib.hid ?_
          repeat (first | (with_reducible exact (Step.refl [] v5)) | (with_reducible refine Step.drew ?_) | (with_reducible refine Step.drewN ?_ _) | (with_reducible refine Step.alloc ?_ _) | ((with_reducible apply Step.setE); focus (first | (left; simp; done) | (right; simp; done) | (right; simp; omega) | (right; dsimp only; omega) | (right; omega))))
        have HS4 : Hid (Step [] W3 W4) := Lib.hid ((Step.of_below hb).trans HV4.out)
        have HBVX : Hid (Box W4 (v5.heap.size) #[.slice qa5 (cutN n a b true).queue.length qc5, .slice aa5 (cutN n a b true).apart.length ac5] 25) := by
          rw [hW4]
          refine Lib.hid ?_
          repeat (first | (with_reducible exact Box.newE _ _ _ _ (by first | rfl | (simp; done))) | (with_reducible refine Box.drew ?_) | (with_reducible refine Box.drewN ?_ _) | (with_reducible refine Box.alloc ?_ _) | (with_reducible apply Box.setE) | ((with_reducible apply Box.otherE); first | (exact (by omega)) | (exact (by simp)) | (exact (by simp; omega))) | (exact (rfl : Array.setIfInBounds _ _ _ = _)))
        clear hW4
        have DX : Hid (RNet (Dom (fun _ => True) [] W4) W4 (cutN n a b true) [.slice qa5 (cutN n a b true).queue.length qc5, .slice aa5 (cutN n a b true).apart.length ac5]) := Lib.hid (good_net.step HNB.out HV4.out)
        clear HNB hb
        go_wp2
        go_ret
        exact ⟨rfl, (Step.to_below (Step.trans (Step.trans (Step.trans HS1.out HS2.out) HS3.out) HS4.out) (noS w))⟩
    · go_wp2
      go_ret
      exact ⟨rfl, ((Step.to_below (Step.trans HS1.out HS2.out) (noS w)).trans (hb4.mono (Step.trans HS1.out HS2.out).size))⟩
end Go.Proofs.Ytmlhpchabnajkaa
