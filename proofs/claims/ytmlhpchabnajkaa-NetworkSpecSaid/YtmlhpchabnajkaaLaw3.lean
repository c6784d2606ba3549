/- NetworkSpec -/
import Derived.Test.YtmlhpchabnajkaaNet22
import Derived.Test.YtmlhpchabnajkaaNetLaw
namespace Go.Proofs.Ytmlhpchabnajkaa
set_option linter.unusedSimpArgs false
set_option linter.unusedVariables false
open Go.RowKit
attribute [local go_sem ↓] Go.wp_at_zero Go.wp_at_succ
set_option maxRecDepth 100000 in
set_option maxHeartbeats 9000000 in
theorem law3_any (n : NetM) (p : Pkt) (qa : Option Addr) (qc : Nat) (aa : Option Addr) (ac : Nat) (da : Option Addr) (dc : Nat) (w : World) (hr : RNet (Now w) w n [.slice qa n.queue.length qc, .slice aa n.apart.length ac]) (hp : RPk (Now w) w p [.int .i64 p.src, .int .i64 p.dst, .slice da p.data.length dc]) :
    Calls Try.prog 3 #[.agg #[.slice qa n.queue.length qc, .slice aa n.apart.length ac], .agg #[.int .i64 p.src, .int .i64 p.dst, .slice da p.data.length dc]] w (Gives (.bool true) w) := by
  have HR := Lib.hid hr
  have HP := Lib.hid hp
  have l1 : n.queue.length ≤ 140737488351232 := by obtain ⟨_, _, _, _, e, _, h, _⟩ := hr; cases e; exact h
  have l2 : n.apart.length ≤ 140737488351232 := by obtain ⟨_, _, _, _, e, _, _, _, _, h, _⟩ := hr; cases e; exact h
  clear hr hp
  unfold Gives
  go_enter Try.func3, Try.ntmps3
  go_upto_region 1 with (fail)
  refine wp_name ?_
  intro W1 hW1
  have HV1 : Hid (Step [] w W1) := by
    rw [hW1]
    refine Lib.hid ?_
    repeat (first | (with_reducible exact (Step.refl [] w)) | (with_reducible refine Step.drew ?_) | (with_reducible refine Step.drewN ?_ _) | (with_reducible refine Step.alloc ?_ _) | ((with_reducible apply Step.setE); focus (first | (left; simp; done) | (right; simp; done) | (right; simp; omega) | (right; dsimp only; omega) | (right; omega))))
  have HS1 : Hid (Step [] w W1) := Lib.hid HV1.out
  have HBN : Hid (Box W1 (w.heap.size) #[.slice qa n.queue.length qc, .slice aa n.apart.length ac] 25) := by
    rw [hW1]
    refine Lib.hid ?_
    repeat (first | (with_reducible exact Box.newE _ _ _ _ (by first | rfl | (simp; done))) | (with_reducible refine Box.drew ?_) | (with_reducible refine Box.drewN ?_ _) | (with_reducible refine Box.alloc ?_ _) | (with_reducible apply Box.setE) | ((with_reducible apply Box.otherE); first | (exact (by omega)) | (exact (by simp)) | (exact (by simp; omega))) | (exact (rfl : Array.setIfInBounds _ _ _ = _)))
  have HBQ : Hid (Box W1 (w.heap.size + 1) #[.int .i64 p.src, .int .i64 p.dst, .slice da p.data.length dc] 28) := by
    rw [hW1]
    refine Lib.hid ?_
    repeat (first | (with_reducible exact Box.newE _ _ _ _ (by first | rfl | (simp; done))) | (with_reducible refine Box.drew ?_) | (with_reducible refine Box.drewN ?_ _) | (with_reducible refine Box.alloc ?_ _) | (with_reducible apply Box.setE) | ((with_reducible apply Box.otherE); first | (exact (by omega)) | (exact (by simp)) | (exact (by simp; omega))) | (exact (rfl : Array.setIfInBounds _ _ _ = _)))
  clear hW1
  have DN : Hid (RNet (Dom (fun _ => True) [] W1) W1 n [.slice qa n.queue.length qc, .slice aa n.apart.length ac]) := Lib.hid (good_net.enterT HR.out HS1.out (noS _))
  have DQ : Hid (RPk (Dom (fun _ => True) [] W1) W1 p [.int .i64 p.src, .int .i64 p.dst, .slice da p.data.length dc]) := Lib.hid (good_pk.enterT HP.out HS1.out (noS _))
  have hx := sane_any W1
  go_wp2_with fail
  refine hx.mono ?_
  rintro e v ⟨rfl, hb⟩
  clear hx
  go_upto_region 3 with (fail)
  refine wp_name ?_
  intro W2 hW2
  have HV2 : Hid (Step [] v W2) := by
    rw [hW2]
    refine Lib.hid ?_
    repeat (first | (with_reducible exact (Step.refl [] v)) | (with_reducible refine Step.drew ?_) | (with_reducible refine Step.drewN ?_ _) | (with_reducible refine Step.alloc ?_ _) | ((with_reducible apply Step.setE); focus (first | (left; simp; done) | (right; simp; done) | (right; simp; omega) | (right; dsimp only; omega) | (right; omega))))
  have HS2 : Hid (Step [] W1 W2) := Lib.hid ((Step.of_below hb).trans HV2.out)
  clear hW2
  clear hb
  obtain ⟨bf, hbf⟩ : ∃ b, b = fewB n := ⟨_, rfl⟩
  have hx := few_any n qa qc aa ac W2 l1 l2
  rw [← hbf] at hx
  have HBF := Lib.hid hbf
  clear hbf
  replace HBN : Hid (Box W2 (w.heap.size) #[.slice qa n.queue.length qc, .slice aa n.apart.length ac] 25) := Lib.hid (HBN.out.step HS2.out (by (first | omega | (simp; done) | (simp; omega))))
  have qN_0 := HBN.out.cell 0 rfl
  have qN_1 := HBN.out.cell 1 rfl
  go_wp2_with fail
  refine hx.mono ?_
  rintro e v ⟨rfl, hb⟩
  clear hx
  clear qN_0 qN_1
  cases bf
  · go_wp2
    go_ret
    exact ⟨rfl, ((Step.to_below (HS1.out.trans HS2.out) (noS w)).trans (hb.mono (HS1.out.trans HS2.out).size))⟩
  · go_upto_region 5 with (fail)
    refine wp_name ?_
    intro W3 hW3
    have HV3 : Hid (Step [] v W3) := by
      rw [hW3]
      refine Lib.hid ?_
      repeat (first | (with_reducible exact (Step.refl [] v)) | (with_reducible refine Step.drew ?_) | (with_reducible refine Step.drewN ?_ _) | (with_reducible refine Step.alloc ?_ _) | ((with_reducible apply Step.setE); focus (first | (left; simp; done) | (right; simp; done) | (right; simp; omega) | (right; dsimp only; omega) | (right; omega))))
    have HS3 : Hid (Step [] W2 W3) := Lib.hid ((Step.of_below hb).trans HV3.out)
    clear hW3
    clear hb
    obtain ⟨N5, hN5⟩ : ∃ x, x = sendN n p := ⟨_, rfl⟩
    obtain ⟨E5, hE5⟩ : ∃ x, x = sendE n p := ⟨_, rfl⟩
    have hx := send_any n p qa qc aa ac da dc W3 (Dom (fun _ => True) [] W3) dom_lt (good_net.step DN.out (HS2.out.trans HS3.out)) (good_pk.step DQ.out (HS2.out.trans HS3.out))
    rw [← hN5, ← hE5] at hx
    have HN5 := Lib.hid hN5
    have HE5 := Lib.hid hE5
    clear hN5 hE5
    replace HBN : Hid (Box W3 (w.heap.size) #[.slice qa n.queue.length qc, .slice aa n.apart.length ac] 25) := Lib.hid (HBN.out.step HS3.out (by (first | omega | (simp; done) | (simp; omega))))
    have qN_0 := HBN.out.cell 0 rfl
    have qN_1 := HBN.out.cell 1 rfl
    replace HBQ : Hid (Box W3 (w.heap.size + 1) #[.int .i64 p.src, .int .i64 p.dst, .slice da p.data.length dc] 28) := Lib.hid (HBQ.out.step (HS2.out.trans HS3.out) (by (first | omega | (simp; done) | (simp; omega))))
    have qQ_0 := HBQ.out.cell 0 rfl
    have qQ_1 := HBQ.out.cell 1 rfl
    have qQ_2 := HBQ.out.cell 2 rfl
    go_wp2_with fail
    refine hx.mono ?_
    rintro e v5 ⟨qa5, qc5, aa5, ac5, rfl, hn, hb⟩
    clear hx
    clear qN_0 qN_1 qQ_0 qQ_1 qQ_2
    have HNB := Lib.hid (good_net.back hn (fun _ _ => trivial) (noL _))
    clear hn
    go_upto_region 6 with (fail)
    refine wp_name ?_
    intro W4 hW4
    have HV4 : Hid (Step [] v5 W4) := by
      rw [hW4]
      refine Lib.hid ?_
      repeat (first | (with_reducible exact (Step.refl [] v5)) | (with_reducible refine Step.drew ?_) | (with_reducible refine Step.drewN ?_ _) | (with_reducible refine Step.alloc ?_ _) | ((with_reducible apply Step.setE); focus (first | (left; simp; done) | (right; simp; done) | (right; simp; omega) | (right; dsimp only; omega) | (right; omega))))
    have HS4 : Hid (Step [] W3 W4) := Lib.hid ((Step.of_below hb).trans HV4.out)
    have HBVA : Hid (Box W4 (v5.heap.size) #[.slice qa5 N5.queue.length qc5, .slice aa5 N5.apart.length ac5] 25) := by
      rw [hW4]
      refine Lib.hid ?_
      repeat (first | (with_reducible exact Box.newE _ _ _ _ (by first | rfl | (simp; done))) | (with_reducible refine Box.drew ?_) | (with_reducible refine Box.drewN ?_ _) | (with_reducible refine Box.alloc ?_ _) | (with_reducible apply Box.setE) | ((with_reducible apply Box.otherE); first | (exact (by omega)) | (exact (by simp)) | (exact (by simp; omega))) | (exact (rfl : Array.setIfInBounds _ _ _ = _)))
    clear hW4
    have DA : Hid (RNet (Dom (fun _ => True) [] W4) W4 N5 [.slice qa5 N5.queue.length qc5, .slice aa5 N5.apart.length ac5]) := Lib.hid (good_net.step HNB.out HV4.out)
    clear HNB hb
    have hx := rsend_any n p qa qc aa ac da dc W4 (Dom (fun _ => True) [] W4) dom_lt (good_net.step DN.out ((HS2.out.trans HS3.out).trans HS4.out)) (good_pk.step DQ.out ((HS2.out.trans HS3.out).trans HS4.out))
    rw [← HN5.out, ← HE5.out] at hx
    replace HBN : Hid (Box W4 (w.heap.size) #[.slice qa n.queue.length qc, .slice aa n.apart.length ac] 25) := Lib.hid (HBN.out.step HS4.out (by (first | omega | (simp; done) | (simp; omega))))
    have qN_0 := HBN.out.cell 0 rfl
    have qN_1 := HBN.out.cell 1 rfl
    replace HBQ : Hid (Box W4 (w.heap.size + 1) #[.int .i64 p.src, .int .i64 p.dst, .slice da p.data.length dc] 28) := Lib.hid (HBQ.out.step HS4.out (by (first | omega | (simp; done) | (simp; omega))))
    have qQ_0 := HBQ.out.cell 0 rfl
    have qQ_1 := HBQ.out.cell 1 rfl
    have qQ_2 := HBQ.out.cell 2 rfl
    go_wp2_with fail
    refine hx.mono ?_
    rintro e v6 ⟨qa6, qc6, aa6, ac6, rfl, hn, hb⟩
    clear hx
    clear qN_0 qN_1 qQ_0 qQ_1 qQ_2
    have HNB := Lib.hid (good_net.back hn (fun _ _ => trivial) (noL _))
    clear hn
    go_upto_region 7 with (fail)
    refine wp_name ?_
    intro W5 hW5
    have HV5 : Hid (Step [] v6 W5) := by
      rw [hW5]
      refine Lib.hid ?_
      repeat (first | (with_reducible exact (Step.refl [] v6)) | (with_reducible refine Step.drew ?_) | (with_reducible refine Step.drewN ?_ _) | (with_reducible refine Step.alloc ?_ _) | ((with_reducible apply Step.setE); focus (first | (left; simp; done) | (right; simp; done) | (right; simp; omega) | (right; dsimp only; omega) | (right; omega))))
    have HS5 : Hid (Step [] W4 W5) := Lib.hid ((Step.of_below hb).trans HV5.out)
    have HBVB : Hid (Box W5 (v6.heap.size) #[.slice qa6 N5.queue.length qc6, .slice aa6 N5.apart.length ac6] 25) := by
      rw [hW5]
      refine Lib.hid ?_
      repeat (first | (with_reducible exact Box.newE _ _ _ _ (by first | rfl | (simp; done))) | (with_reducible refine Box.drew ?_) | (with_reducible refine Box.drewN ?_ _) | (with_reducible refine Box.alloc ?_ _) | (with_reducible apply Box.setE) | ((with_reducible apply Box.otherE); first | (exact (by omega)) | (exact (by simp)) | (exact (by simp; omega))) | (exact (rfl : Array.setIfInBounds _ _ _ = _)))
    clear hW5
    have DB : Hid (RNet (Dom (fun _ => True) [] W5) W5 N5 [.slice qa6 N5.queue.length qc6, .slice aa6 N5.apart.length ac6]) := Lib.hid (good_net.step HNB.out HV5.out)
    clear HNB hb
    obtain ⟨c0, hc0⟩ : ∃ c, c = chk n := ⟨_, rfl⟩
    have C1 := Lib.hid (fun (q : Later W5) => later_of q (check_any n qa qc aa ac q.W (good_net.now_ (good_net.step DN.out ((((HS2.out.trans HS3.out).trans HS4.out).trans HS5.out).trans (Step.of_below q.by_))))))
    have C2 := Lib.hid (fun (q : Later W5) => later_of q (rcheck_any n qa qc aa ac q.W (good_net.now_ (good_net.step DN.out ((((HS2.out.trans HS3.out).trans HS4.out).trans HS5.out).trans (Step.of_below q.by_))))))
    have C3 := Lib.hid (fun (q : Later W5) => later_of q (same_any N5 N5 qa5 qc5 aa5 ac5 qa6 qc6 aa6 ac6 q.W (good_net.now_ (good_net.step DA.out (HS5.out.trans (Step.of_below q.by_)))) (good_net.now_ (good_net.step DB.out (Step.of_below q.by_)))))
    have C4 := Lib.hid (fun (q : Later W5) => later_of q (nnew_any q.W))
    have C5 := Lib.hid (fun (q : Later W5) => later_of q (rnew_any q.W))
    have C6 : Hid (∀ q : Later W5, Calls Try.prog 15 #[.agg #[.slice none 0 0, .slice none 0 0], .agg #[.slice none 0 0, .slice none 0 0]] q.W fun e w'' => e = .returned (.bool (sameB .nil .nil)) ∧ ∃ q' : Later W5, w'' = q'.W) := Lib.hid (fun q => later_of q (same_any .nil .nil none 0 none 0 none 0 none 0 q.W (rnet_nil _ _) (rnet_nil _ _)))
    rw [sameB_refl] at C3 C6
    rw [← hc0] at C1 C2
    clear hc0
    replace HBN : Hid (Box W5 (w.heap.size) #[.slice qa n.queue.length qc, .slice aa n.apart.length ac] 25) := Lib.hid (HBN.out.step HS5.out (by (first | omega | (simp; done) | (simp; omega))))
    replace HBVA : Hid (Box W5 (v5.heap.size) #[.slice qa5 N5.queue.length qc5, .slice aa5 N5.apart.length ac5] 25) := Lib.hid (HBVA.out.step HS5.out (by (first | omega | (simp; done) | (simp; omega))))
    have uN_0 := fun q : Later W5 => q.cell (HBN.out.cell 0 rfl)
    have uN_1 := fun q : Later W5 => q.cell (HBN.out.cell 1 rfl)
    have uVA_0 := fun q : Later W5 => q.cell (HBVA.out.cell 0 rfl)
    have uVA_1 := fun q : Later W5 => q.cell (HBVA.out.cell 1 rfl)
    have uVB_0 := fun q : Later W5 => q.cell (HBVB.out.cell 0 rfl)
    have uVB_1 := fun q : Later W5 => q.cell (HBVB.out.cell 1 rfl)
    refine wp_region_later (by kernel_rfl) (by kernel_rfl) ?_
    repeat (first | go_big_quiet_skip | quiet_step (with_reducible first | exact C1.out _ | exact C2.out _ | exact C3.out _ | exact C4.out _ | exact C5.out _ | exact C6.out _))
    refine wpQuiet_nil ?_
    intro _ hw'
    obtain ⟨⟨W9, hW9⟩, rfl⟩ := hw'
    go_wp2
    go_ret
    exact ⟨rfl, ((Step.to_below ((((HS1.out.trans HS2.out).trans HS3.out).trans HS4.out).trans HS5.out) (noS w)).trans (hW9.mono ((((HS1.out.trans HS2.out).trans HS3.out).trans HS4.out).trans HS5.out).size))⟩
end Go.Proofs.Ytmlhpchabnajkaa
