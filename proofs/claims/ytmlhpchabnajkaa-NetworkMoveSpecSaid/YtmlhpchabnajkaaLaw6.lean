/- NetworkMoveSpec -/
import Derived.Test.YtmlhpchabnajkaaNet22
import Derived.Test.YtmlhpchabnajkaaNetLaw
import Derived.Test.YtmlhpchabnajkaaNetI
namespace Go.Proofs.Ytmlhpchabnajkaa
set_option linter.unusedSimpArgs false
set_option linter.unusedVariables false
open Go.RowKit
attribute [local go_sem ↓] Go.wp_at_zero Go.wp_at_succ
attribute [local go_sem] gquiet gquietAt sameUpon growUpon leB_true
set_option maxRecDepth 100000 in
set_option maxHeartbeats 9000000 in
theorem law6_any (n : NetM) (at_ a b : Int) (on : Bool) (hat : i64R at_) (ha : i64R a) (hb' : i64R b) (qa : Option Addr) (qc : Nat) (aa : Option Addr) (ac : Nat) (w : World) (hr : RNet (Now w) w n [.slice qa n.queue.length qc, .slice aa n.apart.length ac]) :
    Calls Try.prog 6 #[.agg #[.slice qa n.queue.length qc, .slice aa n.apart.length ac], .int .i64 at_, .int .i64 a, .int .i64 b, .bool on] w (Gives (.bool true) w) := by
  have HR := Lib.hid hr
  have l1 : n.queue.length ≤ 140737488351232 := by obtain ⟨_, _, _, _, e, _, h, _⟩ := hr; cases e; exact h
  have l2 : n.apart.length ≤ 140737488351232 := by obtain ⟨_, _, _, _, e, _, _, _, _, h, _⟩ := hr; cases e; exact h
  clear hr
  unfold Gives
  go_enter Try.func6, Try.ntmps6
  go_upto_region 1 with (fail)
  refine wp_name ?_
  intro W1 hW1
  have HV1 : Hid (Step [] w W1) := by
    rw [hW1]
    refine Lib.hid ?_
    repeat (first | (with_reducible exact (Step.refl [] w)) | (with_reducible refine Step.drew ?_) | (with_reducible refine Step.drewN ?_ _) | (with_reducible refine Step.alloc ?_ _) | ((with_reducible apply Step.setE); focus (first | (left; simp; done) | (right; simp; done) | (right; simp; omega) | (right; dsimp only; omega) | (right; omega))))
  have HS1 : Hid (Step [] w W1) := Lib.hid HV1.out
  have HBN : Hid (Box W1 (w.heap.size) #[.slice qa n.queue.length qc, .slice aa n.apart.length ac] 25) := by
    rw [hW1]
    refine Lib.hid ?_
    repeat (first | (with_reducible exact Box.newE _ _ _ _ (by first | rfl | (simp; done))) | (with_reducible refine Box.drew ?_) | (with_reducible refine Box.drewN ?_ _) | (with_reducible refine Box.alloc ?_ _) | (with_reducible apply Box.setE) | ((with_reducible apply Box.otherE); first | (exact (by omega)) | (exact (by simp)) | (exact (by simp; omega))) | (exact (rfl : Array.setIfInBounds _ _ _ = _)))
  clear hW1
  have DN : Hid (RNet (Dom (fun _ => True) [] W1) W1 n [.slice qa n.queue.length qc, .slice aa n.apart.length ac]) := Lib.hid (good_net.enterT HR.out HS1.out (noS _))
  have hx := sane_any W1
  go_wp2_with fail
  refine hx.mono ?_
  rintro e v ⟨rfl, hb⟩
  clear hx
  go_upto_region 3 with (fail)
  refine wp_name ?_
  intro W2 hW2
  have HV2 : Hid (Step [] v W2) := by
    rw [hW2]
    refine Lib.hid ?_
    repeat (first | (with_reducible exact (Step.refl [] v)) | (with_reducible refine Step.drew ?_) | (with_reducible refine Step.drewN ?_ _) | (with_reducible refine Step.alloc ?_ _) | ((with_reducible apply Step.setE); focus (first | (left; simp; done) | (right; simp; done) | (right; simp; omega) | (right; dsimp only; omega) | (right; omega))))
  have HS2 : Hid (Step [] W1 W2) := Lib.hid ((Step.of_below hb).trans HV2.out)
  clear hW2
  clear hb
  obtain ⟨bf, hbf⟩ : ∃ b, b = fewB n := ⟨_, rfl⟩
  have hx := few_any n qa qc aa ac W2 l1 l2
  rw [← hbf] at hx
  have HBF := Lib.hid hbf
  clear hbf
  replace HBN : Hid (Box W2 (w.heap.size) #[.slice qa n.queue.length qc, .slice aa n.apart.length ac] 25) := Lib.hid (HBN.out.step HS2.out (by (first | omega | (simp; done) | (simp; omega))))
  have qN_0 := HBN.out.cell 0 rfl
  have qN_1 := HBN.out.cell 1 rfl
  go_wp2_with fail
  refine hx.mono ?_
  rintro e v ⟨rfl, hb⟩
  clear hx
  clear qN_0 qN_1
  cases bf
  · go_wp2
    go_ret
    exact ⟨rfl, ((Step.to_below (Step.trans HS1.out HS2.out) (noS w)).trans (hb.mono (Step.trans HS1.out HS2.out).size))⟩
  · go_upto_region 5 with (fail)
    refine wp_name ?_
    intro W3 hW3
    have HV3 : Hid (Step [] v W3) := by
      rw [hW3]
      refine Lib.hid ?_
      repeat (first | (with_reducible exact (Step.refl [] v)) | (with_reducible refine Step.drew ?_) | (with_reducible refine Step.drewN ?_ _) | (with_reducible refine Step.alloc ?_ _) | ((with_reducible apply Step.setE); focus (first | (left; simp; done) | (right; simp; done) | (right; simp; omega) | (right; dsimp only; omega) | (right; omega))))
    have HS3 : Hid (Step [] W2 W3) := Lib.hid ((Step.of_below hb).trans HV3.out)
    clear hW3
    clear hb
    obtain ⟨X5, hX5⟩ : ∃ x, x = cutN n a b on := ⟨_, rfl⟩
    obtain ⟨E5, hE5⟩ : ∃ x, x = cutE n a b := ⟨_, rfl⟩
    have HX5 := Lib.hid hX5
    clear hX5
    have HE5 := Lib.hid hE5
    clear hE5
    have hx := cut_any n a b on qa qc aa ac W3 (Dom (fun _ => True) [] W3) dom_lt (good_net.step DN.out (Step.trans HS2.out HS3.out))
    rw [← HX5.out, ← HE5.out] at hx
    replace HBN : Hid (Box W3 (w.heap.size) #[.slice qa n.queue.length qc, .slice aa n.apart.length ac] 25) := Lib.hid (HBN.out.step HS3.out (by (first | omega | (simp; done) | (simp; omega))))
    have qN_0 := HBN.out.cell 0 rfl
    have qN_1 := HBN.out.cell 1 rfl
    go_wp2_with fail
    refine hx.mono ?_
    rintro e v5 ⟨qa5, qc5, aa5, ac5, rfl, hn, hb⟩
    clear hx
    clear qN_0 qN_1
    have HNB := Lib.hid (good_net.back hn (fun _ _ => trivial) (noL _))
    clear hn
    go_upto_region 6 with (fail)
    refine wp_name ?_
    intro W4 hW4
    have HV4 : Hid (Step [] v5 W4) := by
      rw [hW4]
      refine Lib.hid ?_
      repeat (first | (with_reducible exact (Step.refl [] v5)) | (with_reducible refine Step.drew ?_) | (with_reducible refine Step.drewN ?_ _) | (with_reducible refine Step.alloc ?_ _) | ((with_reducible apply Step.setE); focus (first | (left; simp; done) | (right; simp; done) | (right; simp; omega) | (right; dsimp only; omega) | (right; omega))))
    have HS4 : Hid (Step [] W3 W4) := Lib.hid ((Step.of_below hb).trans HV4.out)
    have HBVX : Hid (Box W4 (v5.heap.size) #[.slice qa5 X5.queue.length qc5, .slice aa5 X5.apart.length ac5] 25) := by
      rw [hW4]
      refine Lib.hid ?_
      repeat (first | (with_reducible exact Box.newE _ _ _ _ (by first | rfl | (simp; done))) | (with_reducible refine Box.drew ?_) | (with_reducible refine Box.drewN ?_ _) | (with_reducible refine Box.alloc ?_ _) | (with_reducible apply Box.setE) | ((with_reducible apply Box.otherE); first | (exact (by omega)) | (exact (by simp)) | (exact (by simp; omega))) | (exact (rfl : Array.setIfInBounds _ _ _ = _)))
    clear hW4
    have DX : Hid (RNet (Dom (fun _ => True) [] W4) W4 X5 [.slice qa5 X5.queue.length qc5, .slice aa5 X5.apart.length ac5]) := Lib.hid (good_net.step HNB.out HV4.out)
    clear HNB hb
    have hx := rcut_any n a b on qa qc aa ac W4 (Dom (fun _ => True) [] W4) dom_lt (good_net.step DN.out (Step.trans (Step.trans HS2.out HS3.out) HS4.out))
    rw [← HX5.out, ← HE5.out] at hx
    replace HBN : Hid (Box W4 (w.heap.size) #[.slice qa n.queue.length qc, .slice aa n.apart.length ac] 25) := Lib.hid (HBN.out.step HS4.out (by (first | omega | (simp; done) | (simp; omega))))
    have qN_0 := HBN.out.cell 0 rfl
    have qN_1 := HBN.out.cell 1 rfl
    go_wp2_with fail
    refine hx.mono ?_
    rintro e v6 ⟨qa6, qc6, aa6, ac6, rfl, hn, hb⟩
    clear hx
    clear qN_0 qN_1
    have HNB := Lib.hid (good_net.back hn (fun _ _ => trivial) (noL _))
    clear hn
    go_upto_region 7 with (fail)
    refine wp_name ?_
    intro W5 hW5
    have HV5 : Hid (Step [] v6 W5) := by
      rw [hW5]
      refine Lib.hid ?_
      repeat (first | (with_reducible exact (Step.refl [] v6)) | (with_reducible refine Step.drew ?_) | (with_reducible refine Step.drewN ?_ _) | (with_reducible refine Step.alloc ?_ _) | ((with_reducible apply Step.setE); focus (first | (left; simp; done) | (right; simp; done) | (right; simp; omega) | (right; dsimp only; omega) | (right; omega))))
    have HS5 : Hid (Step [] W4 W5) := Lib.hid ((Step.of_below hb).trans HV5.out)
    have HBVY : Hid (Box W5 (v6.heap.size) #[.slice qa6 X5.queue.length qc6, .slice aa6 X5.apart.length ac6] 25) := by
      rw [hW5]
      refine Lib.hid ?_
      repeat (first | (with_reducible exact Box.newE _ _ _ _ (by first | rfl | (simp; done))) | (with_reducible refine Box.drew ?_) | (with_reducible refine Box.drewN ?_ _) | (with_reducible refine Box.alloc ?_ _) | (with_reducible apply Box.setE) | ((with_reducible apply Box.otherE); first | (exact (by omega)) | (exact (by simp)) | (exact (by simp; omega))) | (exact (rfl : Array.setIfInBounds _ _ _ = _)))
    clear hW5
    have DY : Hid (RNet (Dom (fun _ => True) [] W5) W5 X5 [.slice qa6 X5.queue.length qc6, .slice aa6 X5.apart.length ac6]) := Lib.hid (good_net.step HNB.out HV5.out)
    clear HNB hb
    have hx := same_any X5 X5 qa5 qc5 aa5 ac5 qa6 qc6 aa6 ac6 W5 (good_net.now_ (good_net.step DX.out HS5.out)) (good_net.now_ DY.out)
    rw [sameB_refl] at hx
    replace HBVX : Hid (Box W5 (v5.heap.size) #[.slice qa5 X5.queue.length qc5, .slice aa5 X5.apart.length ac5] 25) := Lib.hid (HBVX.out.step HS5.out (by (first | omega | (simp; done) | (simp; omega))))
    have qVX_0 := HBVX.out.cell 0 rfl
    have qVX_1 := HBVX.out.cell 1 rfl
    have qVY_0 := HBVY.out.cell 0 rfl
    have qVY_1 := HBVY.out.cell 1 rfl
    go_wp2_with fail
    refine hx.mono ?_
    rintro e v7 ⟨rfl, hb7⟩
    clear hx
    clear qVX_0 qVX_1 qVY_0 qVY_1
    go_upto_region 9 with (fail)
    refine wp_name ?_
    intro W6 hW6
    have HV6 : Hid (Step [] v7 W6) := by
      rw [hW6]
      refine Lib.hid ?_
      repeat (first | (with_reducible exact (Step.refl [] v7)) | (with_reducible refine Step.drew ?_) | (with_reducible refine Step.drewN ?_ _) | (with_reducible refine Step.alloc ?_ _) | ((with_reducible apply Step.setE); focus (first | (left; simp; done) | (right; simp; done) | (right; simp; omega) | (right; dsimp only; omega) | (right; omega))))
    have HS6 : Hid (Step [] W5 W6) := Lib.hid ((Step.of_below hb7).trans HV6.out)
    clear hW6
    clear hb7
    go_wp2_with fail
    refine wp_name ?_
    intro W7 hW7
    have HV7 : Hid (Step [] W6 W7) := by
      rw [hW7]
      refine Lib.hid ?_
      repeat (first | (with_reducible exact (Step.refl [] W6)) | (with_reducible refine Step.drew ?_) | (with_reducible refine Step.drewN ?_ _) | (with_reducible refine Step.alloc ?_ _) | ((with_reducible apply Step.setE); focus (first | (left; simp; done) | (right; simp; done) | (right; simp; omega) | (right; dsimp only; omega) | (right; omega))))
    have HS7 : Hid (Step [] W6 W7) := Lib.hid HV7.out
    have HBA : Hid (Box W7 (W6.heap.size) #[.int .i64 at_] 3) := by
      rw [hW7]
      refine Lib.hid ?_
      repeat (first | (with_reducible exact Box.newE _ _ _ _ (by first | rfl | (simp; done))) | (with_reducible refine Box.drew ?_) | (with_reducible refine Box.drewN ?_ _) | (with_reducible refine Box.alloc ?_ _) | (with_reducible apply Box.setE) | ((with_reducible apply Box.otherE); first | (exact (by omega)) | (exact (by simp)) | (exact (by simp; omega))) | (exact (rfl : Array.setIfInBounds _ _ _ = _)))
    clear hW7
    have HO0 : Hid (OwnL (RI .i64) 1 3 W6.heap.size W7 (.slice (some ⟨W6.heap.size, 0, none⟩) 1 1) [at_]) := Lib.hid (box_ownI HBA.out hat (Nat.le_refl _))
    have HS0 := HS7
    go_loopw [15, 16] (fun v i wr => ∃ (l : List Int) (k : Nat), k ≤ 3 ∧ k ≤ n.queue.length ∧ l.length ≤ k + 1 ∧ i = .int .i64 k ∧ Hid (OwnL (RI .i64) 1 3 W6.heap.size wr v l) ∧ Hid (Step [] W6 wr)) (fun _ i _ => 3 - (intOf i).toNat)
    case atStart => exact ⟨[at_], 0, by omega, by omega, by simp, rfl, HO0, HS0⟩
    case round =>
      clear HO0 HS0 HBA HS7 HV7
      obtain ⟨l, k, hk3, hkn, hl, rfl, HO, HS7⟩ := hrel
      by_cases hk : k < n.queue.length ∧ k < 3
      · obtain ⟨hk1, hk2⟩ := hk
        have hk1' : (k : Int) < (n.queue.length : Int) := by omega
        have hk2' : (k : Int) < 3 := by omega
        have hBr : W6.heap.size ≤ wr.heap.size := HS7.out.size
        obtain ⟨xs, hown, hnews, hlen, hone, hpush⟩ := OwnL.push (good_int .i64) 3 (x := (k : Int)) (cs := #[.int .i64 (k : Int)]) HO.out ⟨rfl, i64_wf (by unfold i64R; omega)⟩ hBr
        have HOW := Lib.hid hown
        have HNW := Lib.hid hnews
        have HLN := Lib.hid hlen
        have HON := Lib.hid hone
        have HPU := Lib.hid hpush
        clear hown hnews hlen hone hpush
        have K3 : Hid (l.length + 1 ≤ maxLen) := maxLen_le (by omega)
        have K4 : Hid ((l.length + 1) * 8 ≤ 140737488355328) := Lib.hid (by omega)
        have K5 : Hid (W6.heap.size ≤ (wr.alloc (.cells #[.int .i64 (k : Int)] 3)).heap.size) := le_alloc hBr _
        clear hBr
        replace HBN : Hid (Box wr (w.heap.size) #[.slice qa n.queue.length qc, .slice aa n.apart.length ac] 25) := Lib.hid (HBN.out.step (Step.trans (Step.trans HS5.out HS6.out) HS7.out) (by (first | omega | (simp; done) | (simp; omega))))
        have qN_0 := HBN.out.cell 0 rfl
        have qN_1 := HBN.out.cell 1 rfl
        go_wp2_with (at_builtin; refine wpList_app rfl _ _ rfl elemI W6.heap.size _ _ _ rfl HOW.out _ 1 _ rfl (Source.cells _ _ _ _ rfl HLN.out HNW.out HON.out) (.inl rfl) K3.out K4.out K5.out ?_; intro v5 w5 hg5)
        obtain ⟨h5, h6⟩ := HPU.out v5 w5 hg5
        go_roundw
        case rel => exact ⟨l ++ [(k : Int)], k + 1, by omega, by omega, by simp; omega, by go_num, h5, Step.then_from HS7.out (Nat.le_refl _) h6⟩
        case measure => simp [intOf]; omega
      · obtain ⟨ra, rcap, rfl, hrc, hrow, _⟩ := HO.out.row (good_int .i64)
        have HRW := Lib.hid hrow
        clear hrow HO
        have hks : ¬ (k : Int) < (n.queue.length : Int) ∨ ¬ (k : Int) < 3 := by omega
        have hl4 : l.length ≤ 4 := by omega
        by_cases hk1 : k < n.queue.length
        · have hk1' : (k : Int) < (n.queue.length : Int) := by omega
          have hk2' : ¬ (k : Int) < 3 := by omega
          clear hks
          replace HBN : Hid (Box wr (w.heap.size) #[.slice qa n.queue.length qc, .slice aa n.apart.length ac] 25) := Lib.hid (HBN.out.step (Step.trans (Step.trans HS5.out HS6.out) HS7.out) (by (first | omega | (simp; done) | (simp; omega))))
          have qN_0 := HBN.out.cell 0 rfl
          have qN_1 := HBN.out.cell 1 rfl
          go_wp2_with fail
          clear qN_0 qN_1
          refine wp_name ?_
          intro W8 hW8
          have HV8 : Hid (Step [] wr W8) := by
            rw [hW8]
            refine Lib.hid ?_
            repeat (first | (with_reducible exact (Step.refl [] wr)) | (with_reducible refine Step.drew ?_) | (with_reducible refine Step.drewN ?_ _) | (with_reducible refine Step.alloc ?_ _) | ((with_reducible apply Step.setE); focus (first | (left; simp; done) | (right; simp; done) | (right; simp; omega) | (right; dsimp only; omega) | (right; omega))))
          have HS8 : Hid (Step [] wr W8) := Lib.hid HV8.out
          clear hW8
          have HRQ : Hid (Row 1 (RI .i64) W8 l ra) := Lib.hid (HRW.out.keep (good_int .i64) (fun b hb => Nat.lt_of_lt_of_le hb HS8.out.size) (fun b hb => HS8.out.block b hb (by simp)))
          clear HRW
          have hzN : w.heap.size < W8.heap.size := by have h1 := HBN.out.lt; have h2 := HS8.out.size; omega
          go_loopw [74] (fun i wr => ∃ j : Nat, j ≤ l.length ∧ i = .int .i64 j ∧ Hid (Step [] W8 wr)) (fun i _ => l.length - (intOf i).toNat)
          case atStart => exact ⟨0, Nat.zero_le _, rfl, Step.refl _ _⟩
          case round =>
            obtain ⟨j, hj, rfl, HS9⟩ := hrel
            by_cases hjl : j < l.length
            · obtain ⟨rb, ro, rcs, rfl, hrb, ⟨rfl, hz⟩, hcell⟩ := HRQ.out j hjl
              have hc0 : wr.cell? ⟨rb, ro + j, none⟩ = some (.int .i64 l[j]) := cell_step (by have h := hcell 0 _ rfl; simpa using h) HS9.out
              clear hcell hrb
              have hz0 : W8.heap.size ≤ wr.heap.size := HS9.out.size
              have hj1 : (j : Int) < (l.length : Int) := by omega
              have hj0 : (0 : Int) ≤ (j : Int) := by omega
              obtain ⟨z, hzz⟩ : ∃ z, z = l[j] := ⟨_, rfl⟩
              rw [← hzz] at hc0 hz
              clear hzz
              go_upto_region 17 with (fail)
              clear hc0 hj1 hj0
              refine wp_name ?_
              intro W10 hW10
              have HV10 : Hid (Step [] wr W10) := by
                rw [hW10]
                refine Lib.hid ?_
                repeat (first | (with_reducible exact (Step.refl [] wr)) | (with_reducible refine Step.drew ?_) | (with_reducible refine Step.drewN ?_ _) | (with_reducible refine Step.alloc ?_ _) | ((with_reducible apply Step.setE); focus (first | (left; simp; done) | (right; simp; done) | (right; simp; omega) | (right; dsimp only; omega) | (right; omega))))
              have HS10 : Hid (Step [] wr W10) := Lib.hid HV10.out
              clear hW10
              have hz1 : wr.heap.size ≤ W10.heap.size := HS10.out.size
              obtain ⟨P1, hP1⟩ : ∃ x, x = delP n z := ⟨_, rfl⟩
              obtain ⟨M1, hM1⟩ : ∃ x, x = loseN n z := ⟨_, rfl⟩
              obtain ⟨E1, hE1⟩ : ∃ x, x = askE n z := ⟨_, rfl⟩
              obtain ⟨R1, hR1⟩ : ∃ x, x = repN n z := ⟨_, rfl⟩
              obtain ⟨G1, hG1⟩ : ∃ x, x = repE n z := ⟨_, rfl⟩
              have HP1 := Lib.hid hP1
              clear hP1
              have HM1 := Lib.hid hM1
              clear hM1
              have HE1 := Lib.hid hE1
              clear hE1
              have HR1 := Lib.hid hR1
              clear hR1
              have HG1 := Lib.hid hG1
              clear hG1
              have hx := deliver_any n z qa qc aa ac W10 (Dom (fun _ => True) [] W10) dom_lt (good_net.step DN.out (Step.trans (Step.trans (Step.trans (Step.trans (Step.trans (Step.trans (Step.trans (Step.trans HS2.out HS3.out) HS4.out) HS5.out) HS6.out) HS7.out) HS8.out) HS9.out) HS10.out))
              rw [← HP1.out, ← HM1.out, ← HE1.out] at hx
              replace HBN : Hid (Box W10 (w.heap.size) #[.slice qa n.queue.length qc, .slice aa n.apart.length ac] 25) := Lib.hid (HBN.out.step (Step.trans (Step.trans HS8.out HS9.out) HS10.out) (by (first | omega | (simp; done) | (simp; omega))))
              have qN_0 := HBN.out.cell 0 rfl
              have qN_1 := HBN.out.cell 1 rfl
              go_wp2_with fail
              refine hx.mono ?_
              rintro e v17 ⟨da17, dc17, qa17, qc17, aa17, ac17, rfl, hpk, hn, hb⟩
              clear hx
              clear qN_0 qN_1
              have HNB := Lib.hid (good_net.back hn (fun _ _ => trivial) (noL _))
              have HPB := Lib.hid (good_pk.back hpk (fun _ _ => trivial) (noL _))
              clear hn hpk
              have hv17 : W10.heap.size ≤ v17.heap.size := hb.size
              go_upto_region 18 with (fail)
              refine wp_name ?_
              intro W11 hW11
              have HV11 : Hid (Step [] v17 W11) := by
                rw [hW11]
                refine Lib.hid ?_
                repeat (first | (with_reducible exact (Step.refl [] v17)) | (with_reducible refine Step.drew ?_) | (with_reducible refine Step.drewN ?_ _) | (with_reducible refine Step.alloc ?_ _) | ((with_reducible apply Step.setE); focus (first | (left; simp; done) | (right; simp; done) | (right; simp; omega) | (right; dsimp only; omega) | (right; omega))))
              have HS11 : Hid (Step [] W10 W11) := Lib.hid ((Step.of_below hb).trans HV11.out)
              have HBbP : Hid (Box W11 (v17.heap.size) #[.int .i64 P1.src, .int .i64 P1.dst, .slice da17 P1.data.length dc17] 28) := by
                rw [hW11]
                refine Lib.hid ?_
                repeat (first | (with_reducible exact Box.newE _ _ _ _ (by first | rfl | (simp; done))) | (with_reducible refine Box.drew ?_) | (with_reducible refine Box.drewN ?_ _) | (with_reducible refine Box.alloc ?_ _) | (with_reducible apply Box.setE) | ((with_reducible apply Box.otherE); first | (exact (by omega)) | (exact (by simp)) | (exact (by simp; omega))) | (exact (rfl : Array.setIfInBounds _ _ _ = _)))
              have HBbC : Hid (Box W11 (v17.heap.size + 1) #[.slice qa17 M1.queue.length qc17, .slice aa17 M1.apart.length ac17] 25) := by
                rw [hW11]
                refine Lib.hid ?_
                repeat (first | (with_reducible exact Box.newE _ _ _ _ (by first | rfl | (simp; done))) | (with_reducible refine Box.drew ?_) | (with_reducible refine Box.drewN ?_ _) | (with_reducible refine Box.alloc ?_ _) | (with_reducible apply Box.setE) | ((with_reducible apply Box.otherE); first | (exact (by omega)) | (exact (by simp)) | (exact (by simp; omega))) | (exact (rfl : Array.setIfInBounds _ _ _ = _)))
              clear hW11
              replace DN : Hid (RNet (Dom (fun _ => True) [v17.heap.size + 1] W11) W11 n [.slice qa n.queue.length qc, .slice aa n.apart.length ac]) := Lib.hid (good_net.stepM (good_net.step DN.out (Step.trans (Step.trans (Step.trans (Step.trans (Step.trans (Step.trans (Step.trans (Step.trans HS2.out HS3.out) HS4.out) HS5.out) HS6.out) HS7.out) HS8.out) HS9.out) HS10.out)) (HS11.out.more (by simp)) (by intro b hb; simp at hb ⊢; omega))
              replace DX : Hid (RNet (Dom (fun _ => True) [v17.heap.size + 1] W11) W11 X5 [.slice qa5 X5.queue.length qc5, .slice aa5 X5.apart.length ac5]) := Lib.hid (good_net.stepM (good_net.step DX.out (Step.trans (Step.trans (Step.trans (Step.trans (Step.trans HS5.out HS6.out) HS7.out) HS8.out) HS9.out) HS10.out)) (HS11.out.more (by simp)) (by intro b hb; simp at hb ⊢; omega))
              replace DY : Hid (RNet (Dom (fun _ => True) [v17.heap.size + 1] W11) W11 X5 [.slice qa6 X5.queue.length qc6, .slice aa6 X5.apart.length ac6]) := Lib.hid (good_net.stepM (good_net.step DY.out (Step.trans (Step.trans (Step.trans (Step.trans HS6.out HS7.out) HS8.out) HS9.out) HS10.out)) (HS11.out.more (by simp)) (by intro b hb; simp at hb ⊢; omega))
              have hw17 : v17.heap.size + 1 < W11.heap.size := HBbC.out.lt
              have DdbP : Hid (RPk (Dom (fun _ => True) [v17.heap.size + 1] W11) W11 P1 [.int .i64 P1.src, .int .i64 P1.dst, .slice da17 P1.data.length dc17]) := Lib.hid (good_pk.stepM HPB.out (HV11.out.more (by simp)) (by intro b hb; simp at hb ⊢; omega))
              have DdbC : Hid (RNet (Dom (fun _ => True) [v17.heap.size + 1] W11) W11 M1 [.slice qa17 M1.queue.length qc17, .slice aa17 M1.apart.length ac17]) := Lib.hid (good_net.stepM HNB.out (HV11.out.more (by simp)) (by intro b hb; simp at hb ⊢; omega))
              clear HNB HPB hb
              have hx := rdeliver_any n z qa qc aa ac W11 (Dom (fun _ => True) [v17.heap.size + 1] W11) dom_lt DN.out
              rw [← HP1.out, ← HM1.out, ← HE1.out] at hx
              replace HBN : Hid (Box W11 (w.heap.size) #[.slice qa n.queue.length qc, .slice aa n.apart.length ac] 25) := Lib.hid (HBN.out.step (HS11.out.more (S' := [v17.heap.size + 1]) (by simp)) (by (first | omega | (simp; done) | (simp; omega))))
              have qN_0 := HBN.out.cell 0 rfl
              have qN_1 := HBN.out.cell 1 rfl
              go_wp2_with fail
              refine hx.mono ?_
              rintro e v18 ⟨da18, dc18, qa18, qc18, aa18, ac18, rfl, hpk, hn, hb⟩
              clear hx
              clear qN_0 qN_1
              have HNB := Lib.hid (good_net.back hn (fun _ _ => trivial) (by intro b hb; have hbC := HBbC.out.lt; simp at hb; omega))
              have HPB := Lib.hid (good_pk.back hpk (fun _ _ => trivial) (by intro b hb; have hbC := HBbC.out.lt; simp at hb; omega))
              clear hn hpk
              have hv18 : W11.heap.size ≤ v18.heap.size := hb.size
              go_upto_region 19 with (fail)
              refine wp_name ?_
              intro W12 hW12
              have HV12 : Hid (Step [v17.heap.size + 1] v18 W12) := by
                rw [hW12]
                refine Lib.hid ?_
                repeat (first | (with_reducible exact (Step.refl [v17.heap.size + 1] v18)) | (with_reducible refine Step.drew ?_) | (with_reducible refine Step.drewN ?_ _) | (with_reducible refine Step.alloc ?_ _) | ((with_reducible apply Step.setE); focus (first | (left; simp; done) | (right; simp; done) | (right; simp; omega) | (right; dsimp only; omega) | (right; omega))))
              have HS12 : Hid (Step [v17.heap.size + 1] W11 W12) := Lib.hid ((Step.of_below hb).trans HV12.out)
              have HBbQ : Hid (Box W12 (v18.heap.size) #[.int .i64 P1.src, .int .i64 P1.dst, .slice da18 P1.data.length dc18] 28) := by
                rw [hW12]
                refine Lib.hid ?_
                repeat (first | (with_reducible exact Box.newE _ _ _ _ (by first | rfl | (simp; done))) | (with_reducible refine Box.drew ?_) | (with_reducible refine Box.drewN ?_ _) | (with_reducible refine Box.alloc ?_ _) | (with_reducible apply Box.setE) | ((with_reducible apply Box.otherE); first | (exact (by omega)) | (exact (by simp)) | (exact (by simp; omega))) | (exact (rfl : Array.setIfInBounds _ _ _ = _)))
              have HBbD : Hid (Box W12 (v18.heap.size + 1) #[.slice qa18 M1.queue.length qc18, .slice aa18 M1.apart.length ac18] 25) := by
                rw [hW12]
                refine Lib.hid ?_
                repeat (first | (with_reducible exact Box.newE _ _ _ _ (by first | rfl | (simp; done))) | (with_reducible refine Box.drew ?_) | (with_reducible refine Box.drewN ?_ _) | (with_reducible refine Box.alloc ?_ _) | (with_reducible apply Box.setE) | ((with_reducible apply Box.otherE); first | (exact (by omega)) | (exact (by simp)) | (exact (by simp; omega))) | (exact (rfl : Array.setIfInBounds _ _ _ = _)))
              replace HBbC : Hid (Box W12 (v17.heap.size + 1) #[.slice qa17 M1.queue.length qc17, .slice aa17 M1.apart.length ac17] 25) := by
                rw [hW12]
                refine Lib.hid ?_
                repeat (first | (with_reducible exact (HBbC.out.below hb)) | (with_reducible exact Box.newE _ _ _ _ (by first | rfl | (simp; done))) | (with_reducible refine Box.drew ?_) | (with_reducible refine Box.drewN ?_ _) | (with_reducible refine Box.alloc ?_ _) | (with_reducible apply Box.setE) | ((with_reducible apply Box.otherE); first | (exact (by omega)) | (exact (by simp)) | (exact (by simp; omega))) | (exact (rfl : Array.setIfInBounds _ _ _ = _)))
              clear hW12
              replace DN : Hid (RNet (Dom (fun _ => True) [v17.heap.size + 1, v18.heap.size + 1] W12) W12 n [.slice qa n.queue.length qc, .slice aa n.apart.length ac]) := Lib.hid (good_net.stepM DN.out (HS12.out.more (by simp)) (by intro b hb; simp at hb ⊢; omega))
              replace DX : Hid (RNet (Dom (fun _ => True) [v17.heap.size + 1, v18.heap.size + 1] W12) W12 X5 [.slice qa5 X5.queue.length qc5, .slice aa5 X5.apart.length ac5]) := Lib.hid (good_net.stepM DX.out (HS12.out.more (by simp)) (by intro b hb; simp at hb ⊢; omega))
              replace DY : Hid (RNet (Dom (fun _ => True) [v17.heap.size + 1, v18.heap.size + 1] W12) W12 X5 [.slice qa6 X5.queue.length qc6, .slice aa6 X5.apart.length ac6]) := Lib.hid (good_net.stepM DY.out (HS12.out.more (by simp)) (by intro b hb; simp at hb ⊢; omega))
              replace DdbP : Hid (RPk (Dom (fun _ => True) [v17.heap.size + 1, v18.heap.size + 1] W12) W12 P1 [.int .i64 P1.src, .int .i64 P1.dst, .slice da17 P1.data.length dc17]) := Lib.hid (good_pk.stepM DdbP.out (HS12.out.more (by simp)) (by intro b hb; simp at hb ⊢; omega))
              replace DdbC : Hid (RNet (Dom (fun _ => True) [v17.heap.size + 1, v18.heap.size + 1] W12) W12 M1 [.slice qa17 M1.queue.length qc17, .slice aa17 M1.apart.length ac17]) := Lib.hid (good_net.stepM DdbC.out (HS12.out.more (by simp)) (by intro b hb; simp at hb ⊢; omega))
              have hw18 : v18.heap.size + 1 < W12.heap.size := HBbD.out.lt
              have DdbQ : Hid (RPk (Dom (fun _ => True) [v17.heap.size + 1, v18.heap.size + 1] W12) W12 P1 [.int .i64 P1.src, .int .i64 P1.dst, .slice da18 P1.data.length dc18]) := Lib.hid (good_pk.stepM HPB.out (HV12.out.more (by simp)) (by intro b hb; simp at hb ⊢; omega))
              have DdbD : Hid (RNet (Dom (fun _ => True) [v17.heap.size + 1, v18.heap.size + 1] W12) W12 M1 [.slice qa18 M1.queue.length qc18, .slice aa18 M1.apart.length ac18]) := Lib.hid (good_net.stepM HNB.out (HV12.out.more (by simp)) (by intro b hb; simp at hb ⊢; omega))
              clear HNB HPB hb
              obtain ⟨_, _, e, _, _, _, _, rowP⟩ := (good_pk.now_ DdbP.out)
              cases e
              obtain ⟨_, _, e, _, _, _, _, rowQ⟩ := (good_pk.now_ DdbQ.out)
              cases e
              have hx := samePkt_any P1 P1 da17 dc17 da18 dc18 W12 rowP rowQ
              rw [samePktB_refl] at hx
              clear rowP rowQ
              replace HBbP : Hid (Box W12 (v17.heap.size) #[.int .i64 P1.src, .int .i64 P1.dst, .slice da17 P1.data.length dc17] 28) := Lib.hid (HBbP.out.step (HS12.out.more (S' := [v17.heap.size + 1, v18.heap.size + 1]) (by simp)) (by (first | omega | (simp; done) | (simp; omega))))
              have qbP_0 := HBbP.out.cell 0 rfl
              have qbP_1 := HBbP.out.cell 1 rfl
              have qbP_2 := HBbP.out.cell 2 rfl
              have qbQ_0 := HBbQ.out.cell 0 rfl
              have qbQ_1 := HBbQ.out.cell 1 rfl
              have qbQ_2 := HBbQ.out.cell 2 rfl
              go_wp2_with fail
              refine hx.mono ?_
              rintro e v19 ⟨rfl, hb19⟩
              clear hx
              clear qbP_0 qbP_1 qbP_2 qbQ_0 qbQ_1 qbQ_2
              have hx := same_any M1 M1 qa17 qc17 aa17 ac17 qa18 qc18 aa18 ac18 v19 (good_net.now_ (good_net.step DdbC.out (Step.of_below hb19))) (good_net.now_ (good_net.step DdbD.out (Step.of_below hb19)))
              rw [sameB_refl] at hx
              have BVbC := HBbC.out.below hb19
              have qbC_0 := BVbC.cell 0 rfl
              have qbC_1 := BVbC.cell 1 rfl
              have BVbD := HBbD.out.below hb19
              have qbD_0 := BVbD.cell 0 rfl
              have qbD_1 := BVbD.cell 1 rfl
              go_wp2_with fail
              refine hx.mono ?_
              rintro e v20 ⟨rfl, hb20⟩
              clear hx
              clear BVbC qbC_0 qbC_1 BVbD qbD_0 qbD_1
              have hb21 : Below W12.heap.size W12 v20 := hb19.trans (hb20.mono hb19.size)
              clear hb19 hb20
              go_upto_region 21 with (fail)
              refine wp_name ?_
              intro W13 hW13
              have HV13 : Hid (Step [v17.heap.size + 1, v18.heap.size + 1] v20 W13) := by
                rw [hW13]
                refine Lib.hid ?_
                repeat (first | (with_reducible exact (Step.refl [v17.heap.size + 1, v18.heap.size + 1] v20)) | (with_reducible refine Step.drew ?_) | (with_reducible refine Step.drewN ?_ _) | (with_reducible refine Step.alloc ?_ _) | ((with_reducible apply Step.setE); focus (first | (left; simp; done) | (right; simp; done) | (right; simp; omega) | (right; dsimp only; omega) | (right; omega))))
              have HS13 : Hid (Step [v17.heap.size + 1, v18.heap.size + 1] W12 W13) := Lib.hid ((Step.of_below hb21).trans HV13.out)
              replace HBbC : Hid (Box W13 (v17.heap.size + 1) #[.slice qa17 M1.queue.length qc17, .slice aa17 M1.apart.length ac17] 25) := by
                rw [hW13]
                refine Lib.hid ?_
                repeat (first | (with_reducible exact (HBbC.out.below hb21)) | (with_reducible exact Box.newE _ _ _ _ (by first | rfl | (simp; done))) | (with_reducible refine Box.drew ?_) | (with_reducible refine Box.drewN ?_ _) | (with_reducible refine Box.alloc ?_ _) | (with_reducible apply Box.setE) | ((with_reducible apply Box.otherE); first | (exact (by omega)) | (exact (by simp)) | (exact (by simp; omega))) | (exact (rfl : Array.setIfInBounds _ _ _ = _)))
              replace HBbD : Hid (Box W13 (v18.heap.size + 1) #[.slice qa18 M1.queue.length qc18, .slice aa18 M1.apart.length ac18] 25) := by
                rw [hW13]
                refine Lib.hid ?_
                repeat (first | (with_reducible exact (HBbD.out.below hb21)) | (with_reducible exact Box.newE _ _ _ _ (by first | rfl | (simp; done))) | (with_reducible refine Box.drew ?_) | (with_reducible refine Box.drewN ?_ _) | (with_reducible refine Box.alloc ?_ _) | (with_reducible apply Box.setE) | ((with_reducible apply Box.otherE); first | (exact (by omega)) | (exact (by simp)) | (exact (by simp; omega))) | (exact (rfl : Array.setIfInBounds _ _ _ = _)))
              clear hW13
              clear hb21
              have hx := lose_any n z qa qc aa ac W13 (Dom (fun _ => True) [v17.heap.size + 1, v18.heap.size + 1] W13) dom_lt (good_net.step DN.out HS13.out)
              rw [← HM1.out, ← HE1.out] at hx
              replace HBN : Hid (Box W13 (w.heap.size) #[.slice qa n.queue.length qc, .slice aa n.apart.length ac] 25) := Lib.hid (HBN.out.step (Step.trans (HS12.out.more (S' := [v17.heap.size + 1, v18.heap.size + 1]) (by simp)) HS13.out) (by (first | omega | (simp; done) | (simp; omega))))
              have qN_0 := HBN.out.cell 0 rfl
              have qN_1 := HBN.out.cell 1 rfl
              go_wp2_with fail
              refine hx.mono ?_
              rintro e v22 ⟨qa22, qc22, aa22, ac22, rfl, hn, hb⟩
              clear hx
              clear qN_0 qN_1
              have HNB := Lib.hid (good_net.back hn (fun _ _ => trivial) (by intro b hb; have hbC := HBbC.out.lt; have hbD := HBbD.out.lt; simp at hb; omega))
              clear hn
              have BV := HBbC.out.below hb
              have qV_0 := BV.cell 0 rfl
              have fV_0 := BV.free 0
              have qV_1 := BV.cell 1 rfl
              have fV_1 := BV.free 1
              go_upto_region 22 with (fail)
              clear BV qV_0 qV_1 fV_0 fV_1
              refine wp_name ?_
              intro W14 hW14
              have HV14 : Hid (Step [v17.heap.size + 1, v18.heap.size + 1] v22 W14) := by
                rw [hW14]
                refine Lib.hid ?_
                repeat (first | (with_reducible exact (Step.refl [v17.heap.size + 1, v18.heap.size + 1] v22)) | (with_reducible refine Step.drew ?_) | (with_reducible refine Step.drewN ?_ _) | (with_reducible refine Step.alloc ?_ _) | ((with_reducible apply Step.setE); focus (first | (left; simp; done) | (right; simp; done) | (right; simp; omega) | (right; dsimp only; omega) | (right; omega))))
              have HS14 : Hid (Step [v17.heap.size + 1, v18.heap.size + 1] W13 W14) := Lib.hid ((Step.of_below hb).trans HV14.out)
              replace HBbC : Hid (Box W14 (v17.heap.size + 1) #[.slice qa22 M1.queue.length qc22, .slice aa22 M1.apart.length ac22] 25) := by
                rw [hW14]
                refine Lib.hid ?_
                repeat (first | (with_reducible exact (HBbC.out.below hb)) | (with_reducible exact Box.newE _ _ _ _ (by first | rfl | (simp; done))) | (with_reducible refine Box.drew ?_) | (with_reducible refine Box.drewN ?_ _) | (with_reducible refine Box.alloc ?_ _) | (with_reducible apply Box.setE) | ((with_reducible apply Box.otherE); first | (exact (by omega)) | (exact (by simp)) | (exact (by simp; omega))) | (exact (rfl : Array.setIfInBounds _ _ _ = _)))
              replace HBbD : Hid (Box W14 (v18.heap.size + 1) #[.slice qa18 M1.queue.length qc18, .slice aa18 M1.apart.length ac18] 25) := by
                rw [hW14]
                refine Lib.hid ?_
                repeat (first | (with_reducible exact (HBbD.out.below hb)) | (with_reducible exact Box.newE _ _ _ _ (by first | rfl | (simp; done))) | (with_reducible refine Box.drew ?_) | (with_reducible refine Box.drewN ?_ _) | (with_reducible refine Box.alloc ?_ _) | (with_reducible apply Box.setE) | ((with_reducible apply Box.otherE); first | (exact (by omega)) | (exact (by simp)) | (exact (by simp; omega))) | (exact (rfl : Array.setIfInBounds _ _ _ = _)))
              clear hW14
              have Dc22 : Hid (RNet (Dom (fun _ => True) [v17.heap.size + 1, v18.heap.size + 1] W14) W14 M1 [.slice qa22 M1.queue.length qc22, .slice aa22 M1.apart.length ac22]) := Lib.hid (good_net.step HNB.out HV14.out)
              clear HNB hb
              have hx := rlose_any n z qa qc aa ac W14 (Dom (fun _ => True) [v17.heap.size + 1, v18.heap.size + 1] W14) dom_lt (good_net.step DN.out (Step.trans HS13.out HS14.out))
              rw [← HM1.out, ← HE1.out] at hx
              replace HBN : Hid (Box W14 (w.heap.size) #[.slice qa n.queue.length qc, .slice aa n.apart.length ac] 25) := Lib.hid (HBN.out.step HS14.out (by (first | omega | (simp; done) | (simp; omega))))
              have qN_0 := HBN.out.cell 0 rfl
              have qN_1 := HBN.out.cell 1 rfl
              go_wp2_with fail
              refine hx.mono ?_
              rintro e v23 ⟨qa23, qc23, aa23, ac23, rfl, hn, hb⟩
              clear hx
              clear qN_0 qN_1
              have HNB := Lib.hid (good_net.back hn (fun _ _ => trivial) (by intro b hb; have hbC := HBbC.out.lt; have hbD := HBbD.out.lt; simp at hb; omega))
              clear hn
              have BV := HBbD.out.below hb
              have qV_0 := BV.cell 0 rfl
              have fV_0 := BV.free 0
              have qV_1 := BV.cell 1 rfl
              have fV_1 := BV.free 1
              go_upto_region 23 with (fail)
              clear BV qV_0 qV_1 fV_0 fV_1
              refine wp_name ?_
              intro W15 hW15
              have HV15 : Hid (Step [v17.heap.size + 1, v18.heap.size + 1] v23 W15) := by
                rw [hW15]
                refine Lib.hid ?_
                repeat (first | (with_reducible exact (Step.refl [v17.heap.size + 1, v18.heap.size + 1] v23)) | (with_reducible refine Step.drew ?_) | (with_reducible refine Step.drewN ?_ _) | (with_reducible refine Step.alloc ?_ _) | ((with_reducible apply Step.setE); focus (first | (left; simp; done) | (right; simp; done) | (right; simp; omega) | (right; dsimp only; omega) | (right; omega))))
              have HS15 : Hid (Step [v17.heap.size + 1, v18.heap.size + 1] W14 W15) := Lib.hid ((Step.of_below hb).trans HV15.out)
              replace HBbC : Hid (Box W15 (v17.heap.size + 1) #[.slice qa22 M1.queue.length qc22, .slice aa22 M1.apart.length ac22] 25) := by
                rw [hW15]
                refine Lib.hid ?_
                repeat (first | (with_reducible exact (HBbC.out.below hb)) | (with_reducible exact Box.newE _ _ _ _ (by first | rfl | (simp; done))) | (with_reducible refine Box.drew ?_) | (with_reducible refine Box.drewN ?_ _) | (with_reducible refine Box.alloc ?_ _) | (with_reducible apply Box.setE) | ((with_reducible apply Box.otherE); first | (exact (by omega)) | (exact (by simp)) | (exact (by simp; omega))) | (exact (rfl : Array.setIfInBounds _ _ _ = _)))
              replace HBbD : Hid (Box W15 (v18.heap.size + 1) #[.slice qa23 M1.queue.length qc23, .slice aa23 M1.apart.length ac23] 25) := by
                rw [hW15]
                refine Lib.hid ?_
                repeat (first | (with_reducible exact (HBbD.out.below hb)) | (with_reducible exact Box.newE _ _ _ _ (by first | rfl | (simp; done))) | (with_reducible refine Box.drew ?_) | (with_reducible refine Box.drewN ?_ _) | (with_reducible refine Box.alloc ?_ _) | (with_reducible apply Box.setE) | ((with_reducible apply Box.otherE); first | (exact (by omega)) | (exact (by simp)) | (exact (by simp; omega))) | (exact (rfl : Array.setIfInBounds _ _ _ = _)))
              clear hW15
              have Dc23 : Hid (RNet (Dom (fun _ => True) [v17.heap.size + 1, v18.heap.size + 1] W15) W15 M1 [.slice qa23 M1.queue.length qc23, .slice aa23 M1.apart.length ac23]) := Lib.hid (good_net.step HNB.out HV15.out)
              clear HNB hb
              have hx := same_any M1 M1 qa22 qc22 aa22 ac22 qa23 qc23 aa23 ac23 W15 (good_net.now_ (good_net.step Dc22.out HS15.out)) (good_net.now_ Dc23.out)
              rw [sameB_refl] at hx
              have qbC_0 := HBbC.out.cell 0 rfl
              have qbC_1 := HBbC.out.cell 1 rfl
              have qbD_0 := HBbD.out.cell 0 rfl
              have qbD_1 := HBbD.out.cell 1 rfl
              go_wp2_with fail
              refine hx.mono ?_
              rintro e v23a ⟨rfl, hb⟩
              clear hx
              clear qbC_0 qbC_1 qbD_0 qbD_1
              go_upto_region 25 with (fail)
              refine wp_name ?_
              intro W16 hW16
              have HV16 : Hid (Step [v17.heap.size + 1, v18.heap.size + 1] v23a W16) := by
                rw [hW16]
                refine Lib.hid ?_
                repeat (first | (with_reducible exact (Step.refl [v17.heap.size + 1, v18.heap.size + 1] v23a)) | (with_reducible refine Step.drew ?_) | (with_reducible refine Step.drewN ?_ _) | (with_reducible refine Step.alloc ?_ _) | ((with_reducible apply Step.setE); focus (first | (left; simp; done) | (right; simp; done) | (right; simp; omega) | (right; dsimp only; omega) | (right; omega))))
              have HS16 : Hid (Step [v17.heap.size + 1, v18.heap.size + 1] W15 W16) := Lib.hid ((Step.of_below hb).trans HV16.out)
              replace HBbC : Hid (Box W16 (v17.heap.size + 1) #[.slice qa22 M1.queue.length qc22, .slice aa22 M1.apart.length ac22] 25) := by
                rw [hW16]
                refine Lib.hid ?_
                repeat (first | (with_reducible exact (HBbC.out.below hb)) | (with_reducible exact Box.newE _ _ _ _ (by first | rfl | (simp; done))) | (with_reducible refine Box.drew ?_) | (with_reducible refine Box.drewN ?_ _) | (with_reducible refine Box.alloc ?_ _) | (with_reducible apply Box.setE) | ((with_reducible apply Box.otherE); first | (exact (by omega)) | (exact (by simp)) | (exact (by simp; omega))) | (exact (rfl : Array.setIfInBounds _ _ _ = _)))
              replace HBbD : Hid (Box W16 (v18.heap.size + 1) #[.slice qa23 M1.queue.length qc23, .slice aa23 M1.apart.length ac23] 25) := by
                rw [hW16]
                refine Lib.hid ?_
                repeat (first | (with_reducible exact (HBbD.out.below hb)) | (with_reducible exact Box.newE _ _ _ _ (by first | rfl | (simp; done))) | (with_reducible refine Box.drew ?_) | (with_reducible refine Box.drewN ?_ _) | (with_reducible refine Box.alloc ?_ _) | (with_reducible apply Box.setE) | ((with_reducible apply Box.otherE); first | (exact (by omega)) | (exact (by simp)) | (exact (by simp; omega))) | (exact (rfl : Array.setIfInBounds _ _ _ = _)))
              clear hW16
              clear hb
              have hx := repeat_any n z qa qc aa ac W16 (Dom (fun _ => True) [v17.heap.size + 1, v18.heap.size + 1] W16) dom_lt (good_net.step DN.out (Step.trans (Step.trans (Step.trans HS13.out HS14.out) HS15.out) HS16.out))
              rw [← HR1.out, ← HG1.out] at hx
              replace HBN : Hid (Box W16 (w.heap.size) #[.slice qa n.queue.length qc, .slice aa n.apart.length ac] 25) := Lib.hid (HBN.out.step (Step.trans HS15.out HS16.out) (by (first | omega | (simp; done) | (simp; omega))))
              have qN_0 := HBN.out.cell 0 rfl
              have qN_1 := HBN.out.cell 1 rfl
              go_wp2_with fail
              refine hx.mono ?_
              rintro e v26 ⟨qa26, qc26, aa26, ac26, rfl, hn, hb⟩
              clear hx
              clear qN_0 qN_1
              have HNB := Lib.hid (good_net.back hn (fun _ _ => trivial) (by intro b hb; have hbC := HBbC.out.lt; have hbD := HBbD.out.lt; simp at hb; omega))
              clear hn
              have BV := HBbC.out.below hb
              have qV_0 := BV.cell 0 rfl
              have fV_0 := BV.free 0
              have qV_1 := BV.cell 1 rfl
              have fV_1 := BV.free 1
              go_upto_region 26 with (fail)
              clear BV qV_0 qV_1 fV_0 fV_1
              refine wp_name ?_
              intro W17 hW17
              have HV17 : Hid (Step [v17.heap.size + 1, v18.heap.size + 1] v26 W17) := by
                rw [hW17]
                refine Lib.hid ?_
                repeat (first | (with_reducible exact (Step.refl [v17.heap.size + 1, v18.heap.size + 1] v26)) | (with_reducible refine Step.drew ?_) | (with_reducible refine Step.drewN ?_ _) | (with_reducible refine Step.alloc ?_ _) | ((with_reducible apply Step.setE); focus (first | (left; simp; done) | (right; simp; done) | (right; simp; omega) | (right; dsimp only; omega) | (right; omega))))
              have HS17 : Hid (Step [v17.heap.size + 1, v18.heap.size + 1] W16 W17) := Lib.hid ((Step.of_below hb).trans HV17.out)
              replace HBbC : Hid (Box W17 (v17.heap.size + 1) #[.slice qa26 R1.queue.length qc26, .slice aa26 R1.apart.length ac26] 25) := by
                rw [hW17]
                refine Lib.hid ?_
                repeat (first | (with_reducible exact (HBbC.out.below hb)) | (with_reducible exact Box.newE _ _ _ _ (by first | rfl | (simp; done))) | (with_reducible refine Box.drew ?_) | (with_reducible refine Box.drewN ?_ _) | (with_reducible refine Box.alloc ?_ _) | (with_reducible apply Box.setE) | ((with_reducible apply Box.otherE); first | (exact (by omega)) | (exact (by simp)) | (exact (by simp; omega))) | (exact (rfl : Array.setIfInBounds _ _ _ = _)))
              replace HBbD : Hid (Box W17 (v18.heap.size + 1) #[.slice qa23 M1.queue.length qc23, .slice aa23 M1.apart.length ac23] 25) := by
                rw [hW17]
                refine Lib.hid ?_
                repeat (first | (with_reducible exact (HBbD.out.below hb)) | (with_reducible exact Box.newE _ _ _ _ (by first | rfl | (simp; done))) | (with_reducible refine Box.drew ?_) | (with_reducible refine Box.drewN ?_ _) | (with_reducible refine Box.alloc ?_ _) | (with_reducible apply Box.setE) | ((with_reducible apply Box.otherE); first | (exact (by omega)) | (exact (by simp)) | (exact (by simp; omega))) | (exact (rfl : Array.setIfInBounds _ _ _ = _)))
              clear hW17
              have Dc26 : Hid (RNet (Dom (fun _ => True) [v17.heap.size + 1, v18.heap.size + 1] W17) W17 R1 [.slice qa26 R1.queue.length qc26, .slice aa26 R1.apart.length ac26]) := Lib.hid (good_net.step HNB.out HV17.out)
              clear HNB hb
              have hx := rrepeat_any n z qa qc aa ac W17 (Dom (fun _ => True) [v17.heap.size + 1, v18.heap.size + 1] W17) dom_lt (good_net.step DN.out (Step.trans (Step.trans (Step.trans (Step.trans HS13.out HS14.out) HS15.out) HS16.out) HS17.out))
              rw [← HR1.out, ← HG1.out] at hx
              replace HBN : Hid (Box W17 (w.heap.size) #[.slice qa n.queue.length qc, .slice aa n.apart.length ac] 25) := Lib.hid (HBN.out.step HS17.out (by (first | omega | (simp; done) | (simp; omega))))
              have qN_0 := HBN.out.cell 0 rfl
              have qN_1 := HBN.out.cell 1 rfl
              go_wp2_with fail
              refine hx.mono ?_
              rintro e v27 ⟨qa27, qc27, aa27, ac27, rfl, hn, hb⟩
              clear hx
              clear qN_0 qN_1
              have HNB := Lib.hid (good_net.back hn (fun _ _ => trivial) (by intro b hb; have hbC := HBbC.out.lt; have hbD := HBbD.out.lt; simp at hb; omega))
              clear hn
              have BV := HBbD.out.below hb
              have qV_0 := BV.cell 0 rfl
              have fV_0 := BV.free 0
              have qV_1 := BV.cell 1 rfl
              have fV_1 := BV.free 1
              go_upto_region 27 with (fail)
              clear BV qV_0 qV_1 fV_0 fV_1
              refine wp_name ?_
              intro W18 hW18
              have HV18 : Hid (Step [v17.heap.size + 1, v18.heap.size + 1] v27 W18) := by
                rw [hW18]
                refine Lib.hid ?_
                repeat (first | (with_reducible exact (Step.refl [v17.heap.size + 1, v18.heap.size + 1] v27)) | (with_reducible refine Step.drew ?_) | (with_reducible refine Step.drewN ?_ _) | (with_reducible refine Step.alloc ?_ _) | ((with_reducible apply Step.setE); focus (first | (left; simp; done) | (right; simp; done) | (right; simp; omega) | (right; dsimp only; omega) | (right; omega))))
              have HS18 : Hid (Step [v17.heap.size + 1, v18.heap.size + 1] W17 W18) := Lib.hid ((Step.of_below hb).trans HV18.out)
              replace HBbC : Hid (Box W18 (v17.heap.size + 1) #[.slice qa26 R1.queue.length qc26, .slice aa26 R1.apart.length ac26] 25) := by
                rw [hW18]
                refine Lib.hid ?_
                repeat (first | (with_reducible exact (HBbC.out.below hb)) | (with_reducible exact Box.newE _ _ _ _ (by first | rfl | (simp; done))) | (with_reducible refine Box.drew ?_) | (with_reducible refine Box.drewN ?_ _) | (with_reducible refine Box.alloc ?_ _) | (with_reducible apply Box.setE) | ((with_reducible apply Box.otherE); first | (exact (by omega)) | (exact (by simp)) | (exact (by simp; omega))) | (exact (rfl : Array.setIfInBounds _ _ _ = _)))
              replace HBbD : Hid (Box W18 (v18.heap.size + 1) #[.slice qa27 R1.queue.length qc27, .slice aa27 R1.apart.length ac27] 25) := by
                rw [hW18]
                refine Lib.hid ?_
                repeat (first | (with_reducible exact (HBbD.out.below hb)) | (with_reducible exact Box.newE _ _ _ _ (by first | rfl | (simp; done))) | (with_reducible refine Box.drew ?_) | (with_reducible refine Box.drewN ?_ _) | (with_reducible refine Box.alloc ?_ _) | (with_reducible apply Box.setE) | ((with_reducible apply Box.otherE); first | (exact (by omega)) | (exact (by simp)) | (exact (by simp; omega))) | (exact (rfl : Array.setIfInBounds _ _ _ = _)))
              clear hW18
              have Dc27 : Hid (RNet (Dom (fun _ => True) [v17.heap.size + 1, v18.heap.size + 1] W18) W18 R1 [.slice qa27 R1.queue.length qc27, .slice aa27 R1.apart.length ac27]) := Lib.hid (good_net.step HNB.out HV18.out)
              clear HNB hb
              have hx := same_any R1 R1 qa26 qc26 aa26 ac26 qa27 qc27 aa27 ac27 W18 (good_net.now_ (good_net.step Dc26.out HS18.out)) (good_net.now_ Dc27.out)
              rw [sameB_refl] at hx
              have qbC_0 := HBbC.out.cell 0 rfl
              have qbC_1 := HBbC.out.cell 1 rfl
              have qbD_0 := HBbD.out.cell 0 rfl
              have qbD_1 := HBbD.out.cell 1 rfl
              go_wp2_with fail
              refine hx.mono ?_
              rintro e v27a ⟨rfl, hb⟩
              clear hx
              clear qbC_0 qbC_1 qbD_0 qbD_1
              have hj1 : (j : Int) < (l.length : Int) := by omega
              go_wp2_with fail
              go_roundw
              case rel => exact ⟨j + 1, by omega, by go_num, Step.below (Step.then_from (Step.refl [] wr) (Nat.le_refl _) (Step.to_below (Step.trans (Step.trans (Step.trans (Step.trans (Step.trans (Step.trans (Step.trans (Step.trans (HS10.out.more (S' := [v17.heap.size + 1, v18.heap.size + 1]) (by simp)) (HS11.out.more (S' := [v17.heap.size + 1, v18.heap.size + 1]) (by simp))) (HS12.out.more (S' := [v17.heap.size + 1, v18.heap.size + 1]) (by simp))) HS13.out) HS14.out) HS15.out) HS16.out) HS17.out) HS18.out) (by intro b hb; simp at hb; omega)) |> fun h => HS9.out.trans h) hb⟩
              case measure => simp [intOf]; omega
            · have hj' : j = l.length := by omega
              subst hj'
              go_wp2
              go_ret
              exact ⟨rfl, (Step.to_below (Step.trans (Step.trans (Step.trans (Step.trans (Step.trans (Step.trans (Step.trans (Step.trans HS1.out HS2.out) HS3.out) HS4.out) HS5.out) HS6.out) HS7.out) HS8.out) HS9.out) (noS w))⟩
        · have hk1' : ¬ (k : Int) < (n.queue.length : Int) := by omega
          clear hks
          replace HBN : Hid (Box wr (w.heap.size) #[.slice qa n.queue.length qc, .slice aa n.apart.length ac] 25) := Lib.hid (HBN.out.step (Step.trans (Step.trans HS5.out HS6.out) HS7.out) (by (first | omega | (simp; done) | (simp; omega))))
          have qN_0 := HBN.out.cell 0 rfl
          have qN_1 := HBN.out.cell 1 rfl
          go_wp2_with fail
          clear qN_0 qN_1
          refine wp_name ?_
          intro W8 hW8
          have HV8 : Hid (Step [] wr W8) := by
            rw [hW8]
            refine Lib.hid ?_
            repeat (first | (with_reducible exact (Step.refl [] wr)) | (with_reducible refine Step.drew ?_) | (with_reducible refine Step.drewN ?_ _) | (with_reducible refine Step.alloc ?_ _) | ((with_reducible apply Step.setE); focus (first | (left; simp; done) | (right; simp; done) | (right; simp; omega) | (right; dsimp only; omega) | (right; omega))))
          have HS8 : Hid (Step [] wr W8) := Lib.hid HV8.out
          clear hW8
          have HRQ : Hid (Row 1 (RI .i64) W8 l ra) := Lib.hid (HRW.out.keep (good_int .i64) (fun b hb => Nat.lt_of_lt_of_le hb HS8.out.size) (fun b hb => HS8.out.block b hb (by simp)))
          clear HRW
          have hzN : w.heap.size < W8.heap.size := by have h1 := HBN.out.lt; have h2 := HS8.out.size; omega
          go_loopw [74] (fun i wr => ∃ j : Nat, j ≤ l.length ∧ i = .int .i64 j ∧ Hid (Step [] W8 wr)) (fun i _ => l.length - (intOf i).toNat)
          case atStart => exact ⟨0, Nat.zero_le _, rfl, Step.refl _ _⟩
          case round =>
            obtain ⟨j, hj, rfl, HS9⟩ := hrel
            by_cases hjl : j < l.length
            · obtain ⟨rb, ro, rcs, rfl, hrb, ⟨rfl, hz⟩, hcell⟩ := HRQ.out j hjl
              have hc0 : wr.cell? ⟨rb, ro + j, none⟩ = some (.int .i64 l[j]) := cell_step (by have h := hcell 0 _ rfl; simpa using h) HS9.out
              clear hcell hrb
              have hz0 : W8.heap.size ≤ wr.heap.size := HS9.out.size
              have hj1 : (j : Int) < (l.length : Int) := by omega
              have hj0 : (0 : Int) ≤ (j : Int) := by omega
              obtain ⟨z, hzz⟩ : ∃ z, z = l[j] := ⟨_, rfl⟩
              rw [← hzz] at hc0 hz
              clear hzz
              go_upto_region 17 with (fail)
              clear hc0 hj1 hj0
              refine wp_name ?_
              intro W10 hW10
              have HV10 : Hid (Step [] wr W10) := by
                rw [hW10]
                refine Lib.hid ?_
                repeat (first | (with_reducible exact (Step.refl [] wr)) | (with_reducible refine Step.drew ?_) | (with_reducible refine Step.drewN ?_ _) | (with_reducible refine Step.alloc ?_ _) | ((with_reducible apply Step.setE); focus (first | (left; simp; done) | (right; simp; done) | (right; simp; omega) | (right; dsimp only; omega) | (right; omega))))
              have HS10 : Hid (Step [] wr W10) := Lib.hid HV10.out
              clear hW10
              have hz1 : wr.heap.size ≤ W10.heap.size := HS10.out.size
              obtain ⟨P1, hP1⟩ : ∃ x, x = delP n z := ⟨_, rfl⟩
              obtain ⟨M1, hM1⟩ : ∃ x, x = loseN n z := ⟨_, rfl⟩
              obtain ⟨E1, hE1⟩ : ∃ x, x = askE n z := ⟨_, rfl⟩
              obtain ⟨R1, hR1⟩ : ∃ x, x = repN n z := ⟨_, rfl⟩
              obtain ⟨G1, hG1⟩ : ∃ x, x = repE n z := ⟨_, rfl⟩
              have HP1 := Lib.hid hP1
              clear hP1
              have HM1 := Lib.hid hM1
              clear hM1
              have HE1 := Lib.hid hE1
              clear hE1
              have HR1 := Lib.hid hR1
              clear hR1
              have HG1 := Lib.hid hG1
              clear hG1
              have hx := deliver_any n z qa qc aa ac W10 (Dom (fun _ => True) [] W10) dom_lt (good_net.step DN.out (Step.trans (Step.trans (Step.trans (Step.trans (Step.trans (Step.trans (Step.trans (Step.trans HS2.out HS3.out) HS4.out) HS5.out) HS6.out) HS7.out) HS8.out) HS9.out) HS10.out))
              rw [← HP1.out, ← HM1.out, ← HE1.out] at hx
              replace HBN : Hid (Box W10 (w.heap.size) #[.slice qa n.queue.length qc, .slice aa n.apart.length ac] 25) := Lib.hid (HBN.out.step (Step.trans (Step.trans HS8.out HS9.out) HS10.out) (by (first | omega | (simp; done) | (simp; omega))))
              have qN_0 := HBN.out.cell 0 rfl
              have qN_1 := HBN.out.cell 1 rfl
              go_wp2_with fail
              refine hx.mono ?_
              rintro e v17 ⟨da17, dc17, qa17, qc17, aa17, ac17, rfl, hpk, hn, hb⟩
              clear hx
              clear qN_0 qN_1
              have HNB := Lib.hid (good_net.back hn (fun _ _ => trivial) (noL _))
              have HPB := Lib.hid (good_pk.back hpk (fun _ _ => trivial) (noL _))
              clear hn hpk
              have hv17 : W10.heap.size ≤ v17.heap.size := hb.size
              go_upto_region 18 with (fail)
              refine wp_name ?_
              intro W11 hW11
              have HV11 : Hid (Step [] v17 W11) := by
                rw [hW11]
                refine Lib.hid ?_
                repeat (first | (with_reducible exact (Step.refl [] v17)) | (with_reducible refine Step.drew ?_) | (with_reducible refine Step.drewN ?_ _) | (with_reducible refine Step.alloc ?_ _) | ((with_reducible apply Step.setE); focus (first | (left; simp; done) | (right; simp; done) | (right; simp; omega) | (right; dsimp only; omega) | (right; omega))))
              have HS11 : Hid (Step [] W10 W11) := Lib.hid ((Step.of_below hb).trans HV11.out)
              have HBbP : Hid (Box W11 (v17.heap.size) #[.int .i64 P1.src, .int .i64 P1.dst, .slice da17 P1.data.length dc17] 28) := by
                rw [hW11]
                refine Lib.hid ?_
                repeat (first | (with_reducible exact Box.newE _ _ _ _ (by first | rfl | (simp; done))) | (with_reducible refine Box.drew ?_) | (with_reducible refine Box.drewN ?_ _) | (with_reducible refine Box.alloc ?_ _) | (with_reducible apply Box.setE) | ((with_reducible apply Box.otherE); first | (exact (by omega)) | (exact (by simp)) | (exact (by simp; omega))) | (exact (rfl : Array.setIfInBounds _ _ _ = _)))
              have HBbC : Hid (Box W11 (v17.heap.size + 1) #[.slice qa17 M1.queue.length qc17, .slice aa17 M1.apart.length ac17] 25) := by
                rw [hW11]
                refine Lib.hid ?_
                repeat (first | (with_reducible exact Box.newE _ _ _ _ (by first | rfl | (simp; done))) | (with_reducible refine Box.drew ?_) | (with_reducible refine Box.drewN ?_ _) | (with_reducible refine Box.alloc ?_ _) | (with_reducible apply Box.setE) | ((with_reducible apply Box.otherE); first | (exact (by omega)) | (exact (by simp)) | (exact (by simp; omega))) | (exact (rfl : Array.setIfInBounds _ _ _ = _)))
              clear hW11
              replace DN : Hid (RNet (Dom (fun _ => True) [v17.heap.size + 1] W11) W11 n [.slice qa n.queue.length qc, .slice aa n.apart.length ac]) := Lib.hid (good_net.stepM (good_net.step DN.out (Step.trans (Step.trans (Step.trans (Step.trans (Step.trans (Step.trans (Step.trans (Step.trans HS2.out HS3.out) HS4.out) HS5.out) HS6.out) HS7.out) HS8.out) HS9.out) HS10.out)) (HS11.out.more (by simp)) (by intro b hb; simp at hb ⊢; omega))
              replace DX : Hid (RNet (Dom (fun _ => True) [v17.heap.size + 1] W11) W11 X5 [.slice qa5 X5.queue.length qc5, .slice aa5 X5.apart.length ac5]) := Lib.hid (good_net.stepM (good_net.step DX.out (Step.trans (Step.trans (Step.trans (Step.trans (Step.trans HS5.out HS6.out) HS7.out) HS8.out) HS9.out) HS10.out)) (HS11.out.more (by simp)) (by intro b hb; simp at hb ⊢; omega))
              replace DY : Hid (RNet (Dom (fun _ => True) [v17.heap.size + 1] W11) W11 X5 [.slice qa6 X5.queue.length qc6, .slice aa6 X5.apart.length ac6]) := Lib.hid (good_net.stepM (good_net.step DY.out (Step.trans (Step.trans (Step.trans (Step.trans HS6.out HS7.out) HS8.out) HS9.out) HS10.out)) (HS11.out.more (by simp)) (by intro b hb; simp at hb ⊢; omega))
              have hw17 : v17.heap.size + 1 < W11.heap.size := HBbC.out.lt
              have DdbP : Hid (RPk (Dom (fun _ => True) [v17.heap.size + 1] W11) W11 P1 [.int .i64 P1.src, .int .i64 P1.dst, .slice da17 P1.data.length dc17]) := Lib.hid (good_pk.stepM HPB.out (HV11.out.more (by simp)) (by intro b hb; simp at hb ⊢; omega))
              have DdbC : Hid (RNet (Dom (fun _ => True) [v17.heap.size + 1] W11) W11 M1 [.slice qa17 M1.queue.length qc17, .slice aa17 M1.apart.length ac17]) := Lib.hid (good_net.stepM HNB.out (HV11.out.more (by simp)) (by intro b hb; simp at hb ⊢; omega))
              clear HNB HPB hb
              have hx := rdeliver_any n z qa qc aa ac W11 (Dom (fun _ => True) [v17.heap.size + 1] W11) dom_lt DN.out
              rw [← HP1.out, ← HM1.out, ← HE1.out] at hx
              replace HBN : Hid (Box W11 (w.heap.size) #[.slice qa n.queue.length qc, .slice aa n.apart.length ac] 25) := Lib.hid (HBN.out.step (HS11.out.more (S' := [v17.heap.size + 1]) (by simp)) (by (first | omega | (simp; done) | (simp; omega))))
              have qN_0 := HBN.out.cell 0 rfl
              have qN_1 := HBN.out.cell 1 rfl
              go_wp2_with fail
              refine hx.mono ?_
              rintro e v18 ⟨da18, dc18, qa18, qc18, aa18, ac18, rfl, hpk, hn, hb⟩
              clear hx
              clear qN_0 qN_1
              have HNB := Lib.hid (good_net.back hn (fun _ _ => trivial) (by intro b hb; have hbC := HBbC.out.lt; simp at hb; omega))
              have HPB := Lib.hid (good_pk.back hpk (fun _ _ => trivial) (by intro b hb; have hbC := HBbC.out.lt; simp at hb; omega))
              clear hn hpk
              have hv18 : W11.heap.size ≤ v18.heap.size := hb.size
              go_upto_region 19 with (fail)
              refine wp_name ?_
              intro W12 hW12
              have HV12 : Hid (Step [v17.heap.size + 1] v18 W12) := by
                rw [hW12]
                refine Lib.hid ?_
                repeat (first | (with_reducible exact (Step.refl [v17.heap.size + 1] v18)) | (with_reducible refine Step.drew ?_) | (with_reducible refine Step.drewN ?_ _) | (with_reducible refine Step.alloc ?_ _) | ((with_reducible apply Step.setE); focus (first | (left; simp; done) | (right; simp; done) | (right; simp; omega) | (right; dsimp only; omega) | (right; omega))))
              have HS12 : Hid (Step [v17.heap.size + 1] W11 W12) := Lib.hid ((Step.of_below hb).trans HV12.out)
              have HBbQ : Hid (Box W12 (v18.heap.size) #[.int .i64 P1.src, .int .i64 P1.dst, .slice da18 P1.data.length dc18] 28) := by
                rw [hW12]
                refine Lib.hid ?_
                repeat (first | (with_reducible exact Box.newE _ _ _ _ (by first | rfl | (simp; done))) | (with_reducible refine Box.drew ?_) | (with_reducible refine Box.drewN ?_ _) | (with_reducible refine Box.alloc ?_ _) | (with_reducible apply Box.setE) | ((with_reducible apply Box.otherE); first | (exact (by omega)) | (exact (by simp)) | (exact (by simp; omega))) | (exact (rfl : Array.setIfInBounds _ _ _ = _)))
              have HBbD : Hid (Box W12 (v18.heap.size + 1) #[.slice qa18 M1.queue.length qc18, .slice aa18 M1.apart.length ac18] 25) := by
                rw [hW12]
                refine Lib.hid ?_
                repeat (first | (with_reducible exact Box.newE _ _ _ _ (by first | rfl | (simp; done))) | (with_reducible refine Box.drew ?_) | (with_reducible refine Box.drewN ?_ _) | (with_reducible refine Box.alloc ?_ _) | (with_reducible apply Box.setE) | ((with_reducible apply Box.otherE); first | (exact (by omega)) | (exact (by simp)) | (exact (by simp; omega))) | (exact (rfl : Array.setIfInBounds _ _ _ = _)))
              replace HBbC : Hid (Box W12 (v17.heap.size + 1) #[.slice qa17 M1.queue.length qc17, .slice aa17 M1.apart.length ac17] 25) := by
                rw [hW12]
                refine Lib.hid ?_
                repeat (first | (with_reducible exact (HBbC.out.below hb)) | (with_reducible exact Box.newE _ _ _ _ (by first | rfl | (simp; done))) | (with_reducible refine Box.drew ?_) | (with_reducible refine Box.drewN ?_ _) | (with_reducible refine Box.alloc ?_ _) | (with_reducible apply Box.setE) | ((with_reducible apply Box.otherE); first | (exact (by omega)) | (exact (by simp)) | (exact (by simp; omega))) | (exact (rfl : Array.setIfInBounds _ _ _ = _)))
              clear hW12
              replace DN : Hid (RNet (Dom (fun _ => True) [v17.heap.size + 1, v18.heap.size + 1] W12) W12 n [.slice qa n.queue.length qc, .slice aa n.apart.length ac]) := Lib.hid (good_net.stepM DN.out (HS12.out.more (by simp)) (by intro b hb; simp at hb ⊢; omega))
              replace DX : Hid (RNet (Dom (fun _ => True) [v17.heap.size + 1, v18.heap.size + 1] W12) W12 X5 [.slice qa5 X5.queue.length qc5, .slice aa5 X5.apart.length ac5]) := Lib.hid (good_net.stepM DX.out (HS12.out.more (by simp)) (by intro b hb; simp at hb ⊢; omega))
              replace DY : Hid (RNet (Dom (fun _ => True) [v17.heap.size + 1, v18.heap.size + 1] W12) W12 X5 [.slice qa6 X5.queue.length qc6, .slice aa6 X5.apart.length ac6]) := Lib.hid (good_net.stepM DY.out (HS12.out.more (by simp)) (by intro b hb; simp at hb ⊢; omega))
              replace DdbP : Hid (RPk (Dom (fun _ => True) [v17.heap.size + 1, v18.heap.size + 1] W12) W12 P1 [.int .i64 P1.src, .int .i64 P1.dst, .slice da17 P1.data.length dc17]) := Lib.hid (good_pk.stepM DdbP.out (HS12.out.more (by simp)) (by intro b hb; simp at hb ⊢; omega))
              replace DdbC : Hid (RNet (Dom (fun _ => True) [v17.heap.size + 1, v18.heap.size + 1] W12) W12 M1 [.slice qa17 M1.queue.length qc17, .slice aa17 M1.apart.length ac17]) := Lib.hid (good_net.stepM DdbC.out (HS12.out.more (by simp)) (by intro b hb; simp at hb ⊢; omega))
              have hw18 : v18.heap.size + 1 < W12.heap.size := HBbD.out.lt
              have DdbQ : Hid (RPk (Dom (fun _ => True) [v17.heap.size + 1, v18.heap.size + 1] W12) W12 P1 [.int .i64 P1.src, .int .i64 P1.dst, .slice da18 P1.data.length dc18]) := Lib.hid (good_pk.stepM HPB.out (HV12.out.more (by simp)) (by intro b hb; simp at hb ⊢; omega))
              have DdbD : Hid (RNet (Dom (fun _ => True) [v17.heap.size + 1, v18.heap.size + 1] W12) W12 M1 [.slice qa18 M1.queue.length qc18, .slice aa18 M1.apart.length ac18]) := Lib.hid (good_net.stepM HNB.out (HV12.out.more (by simp)) (by intro b hb; simp at hb ⊢; omega))
              clear HNB HPB hb
              obtain ⟨_, _, e, _, _, _, _, rowP⟩ := (good_pk.now_ DdbP.out)
              cases e
              obtain ⟨_, _, e, _, _, _, _, rowQ⟩ := (good_pk.now_ DdbQ.out)
              cases e
              have hx := samePkt_any P1 P1 da17 dc17 da18 dc18 W12 rowP rowQ
              rw [samePktB_refl] at hx
              clear rowP rowQ
              replace HBbP : Hid (Box W12 (v17.heap.size) #[.int .i64 P1.src, .int .i64 P1.dst, .slice da17 P1.data.length dc17] 28) := Lib.hid (HBbP.out.step (HS12.out.more (S' := [v17.heap.size + 1, v18.heap.size + 1]) (by simp)) (by (first | omega | (simp; done) | (simp; omega))))
              have qbP_0 := HBbP.out.cell 0 rfl
              have qbP_1 := HBbP.out.cell 1 rfl
              have qbP_2 := HBbP.out.cell 2 rfl
              have qbQ_0 := HBbQ.out.cell 0 rfl
              have qbQ_1 := HBbQ.out.cell 1 rfl
              have qbQ_2 := HBbQ.out.cell 2 rfl
              go_wp2_with fail
              refine hx.mono ?_
              rintro e v19 ⟨rfl, hb19⟩
              clear hx
              clear qbP_0 qbP_1 qbP_2 qbQ_0 qbQ_1 qbQ_2
              have hx := same_any M1 M1 qa17 qc17 aa17 ac17 qa18 qc18 aa18 ac18 v19 (good_net.now_ (good_net.step DdbC.out (Step.of_below hb19))) (good_net.now_ (good_net.step DdbD.out (Step.of_below hb19)))
              rw [sameB_refl] at hx
              have BVbC := HBbC.out.below hb19
              have qbC_0 := BVbC.cell 0 rfl
              have qbC_1 := BVbC.cell 1 rfl
              have BVbD := HBbD.out.below hb19
              have qbD_0 := BVbD.cell 0 rfl
              have qbD_1 := BVbD.cell 1 rfl
              go_wp2_with fail
              refine hx.mono ?_
              rintro e v20 ⟨rfl, hb20⟩
              clear hx
              clear BVbC qbC_0 qbC_1 BVbD qbD_0 qbD_1
              have hb21 : Below W12.heap.size W12 v20 := hb19.trans (hb20.mono hb19.size)
              clear hb19 hb20
              go_upto_region 21 with (fail)
              refine wp_name ?_
              intro W13 hW13
              have HV13 : Hid (Step [v17.heap.size + 1, v18.heap.size + 1] v20 W13) := by
                rw [hW13]
                refine Lib.hid ?_
                repeat (first | (with_reducible exact (Step.refl [v17.heap.size + 1, v18.heap.size + 1] v20)) | (with_reducible refine Step.drew ?_) | (with_reducible refine Step.drewN ?_ _) | (with_reducible refine Step.alloc ?_ _) | ((with_reducible apply Step.setE); focus (first | (left; simp; done) | (right; simp; done) | (right; simp; omega) | (right; dsimp only; omega) | (right; omega))))
              have HS13 : Hid (Step [v17.heap.size + 1, v18.heap.size + 1] W12 W13) := Lib.hid ((Step.of_below hb21).trans HV13.out)
              replace HBbC : Hid (Box W13 (v17.heap.size + 1) #[.slice qa17 M1.queue.length qc17, .slice aa17 M1.apart.length ac17] 25) := by
                rw [hW13]
                refine Lib.hid ?_
                repeat (first | (with_reducible exact (HBbC.out.below hb21)) | (with_reducible exact Box.newE _ _ _ _ (by first | rfl | (simp; done))) | (with_reducible refine Box.drew ?_) | (with_reducible refine Box.drewN ?_ _) | (with_reducible refine Box.alloc ?_ _) | (with_reducible apply Box.setE) | ((with_reducible apply Box.otherE); first | (exact (by omega)) | (exact (by simp)) | (exact (by simp; omega))) | (exact (rfl : Array.setIfInBounds _ _ _ = _)))
              replace HBbD : Hid (Box W13 (v18.heap.size + 1) #[.slice qa18 M1.queue.length qc18, .slice aa18 M1.apart.length ac18] 25) := by
                rw [hW13]
                refine Lib.hid ?_
                repeat (first | (with_reducible exact (HBbD.out.below hb21)) | (with_reducible exact Box.newE _ _ _ _ (by first | rfl | (simp; done))) | (with_reducible refine Box.drew ?_) | (with_reducible refine Box.drewN ?_ _) | (with_reducible refine Box.alloc ?_ _) | (with_reducible apply Box.setE) | ((with_reducible apply Box.otherE); first | (exact (by omega)) | (exact (by simp)) | (exact (by simp; omega))) | (exact (rfl : Array.setIfInBounds _ _ _ = _)))
              clear hW13
              clear hb21
              have hx := lose_any n z qa qc aa ac W13 (Dom (fun _ => True) [v17.heap.size + 1, v18.heap.size + 1] W13) dom_lt (good_net.step DN.out HS13.out)
              rw [← HM1.out, ← HE1.out] at hx
              replace HBN : Hid (Box W13 (w.heap.size) #[.slice qa n.queue.length qc, .slice aa n.apart.length ac] 25) := Lib.hid (HBN.out.step (Step.trans (HS12.out.more (S' := [v17.heap.size + 1, v18.heap.size + 1]) (by simp)) HS13.out) (by (first | omega | (simp; done) | (simp; omega))))
              have qN_0 := HBN.out.cell 0 rfl
              have qN_1 := HBN.out.cell 1 rfl
              go_wp2_with fail
              refine hx.mono ?_
              rintro e v22 ⟨qa22, qc22, aa22, ac22, rfl, hn, hb⟩
              clear hx
              clear qN_0 qN_1
              have HNB := Lib.hid (good_net.back hn (fun _ _ => trivial) (by intro b hb; have hbC := HBbC.out.lt; have hbD := HBbD.out.lt; simp at hb; omega))
              clear hn
              have BV := HBbC.out.below hb
              have qV_0 := BV.cell 0 rfl
              have fV_0 := BV.free 0
              have qV_1 := BV.cell 1 rfl
              have fV_1 := BV.free 1
              go_upto_region 22 with (fail)
              clear BV qV_0 qV_1 fV_0 fV_1
              refine wp_name ?_
              intro W14 hW14
              have HV14 : Hid (Step [v17.heap.size + 1, v18.heap.size + 1] v22 W14) := by
                rw [hW14]
                refine Lib.hid ?_
                repeat (first | (with_reducible exact (Step.refl [v17.heap.size + 1, v18.heap.size + 1] v22)) | (with_reducible refine Step.drew ?_) | (with_reducible refine Step.drewN ?_ _) | (with_reducible refine Step.alloc ?_ _) | ((with_reducible apply Step.setE); focus (first | (left; simp; done) | (right; simp; done) | (right; simp; omega) | (right; dsimp only; omega) | (right; omega))))
              have HS14 : Hid (Step [v17.heap.size + 1, v18.heap.size + 1] W13 W14) := Lib.hid ((Step.of_below hb).trans HV14.out)
              replace HBbC : Hid (Box W14 (v17.heap.size + 1) #[.slice qa22 M1.queue.length qc22, .slice aa22 M1.apart.length ac22] 25) := by
                rw [hW14]
                refine Lib.hid ?_
                repeat (first | (with_reducible exact (HBbC.out.below hb)) | (with_reducible exact Box.newE _ _ _ _ (by first | rfl | (simp; done))) | (with_reducible refine Box.drew ?_) | (with_reducible refine Box.drewN ?_ _) | (with_reducible refine Box.alloc ?_ _) | (with_reducible apply Box.setE) | ((with_reducible apply Box.otherE); first | (exact (by omega)) | (exact (by simp)) | (exact (by simp; omega))) | (exact (rfl : Array.setIfInBounds _ _ _ = _)))
              replace HBbD : Hid (Box W14 (v18.heap.size + 1) #[.slice qa18 M1.queue.length qc18, .slice aa18 M1.apart.length ac18] 25) := by
                rw [hW14]
                refine Lib.hid ?_
                repeat (first | (with_reducible exact (HBbD.out.below hb)) | (with_reducible exact Box.newE _ _ _ _ (by first | rfl | (simp; done))) | (with_reducible refine Box.drew ?_) | (with_reducible refine Box.drewN ?_ _) | (with_reducible refine Box.alloc ?_ _) | (with_reducible apply Box.setE) | ((with_reducible apply Box.otherE); first | (exact (by omega)) | (exact (by simp)) | (exact (by simp; omega))) | (exact (rfl : Array.setIfInBounds _ _ _ = _)))
              clear hW14
              have Dc22 : Hid (RNet (Dom (fun _ => True) [v17.heap.size + 1, v18.heap.size + 1] W14) W14 M1 [.slice qa22 M1.queue.length qc22, .slice aa22 M1.apart.length ac22]) := Lib.hid (good_net.step HNB.out HV14.out)
              clear HNB hb
              have hx := rlose_any n z qa qc aa ac W14 (Dom (fun _ => True) [v17.heap.size + 1, v18.heap.size + 1] W14) dom_lt (good_net.step DN.out (Step.trans HS13.out HS14.out))
              rw [← HM1.out, ← HE1.out] at hx
              replace HBN : Hid (Box W14 (w.heap.size) #[.slice qa n.queue.length qc, .slice aa n.apart.length ac] 25) := Lib.hid (HBN.out.step HS14.out (by (first | omega | (simp; done) | (simp; omega))))
              have qN_0 := HBN.out.cell 0 rfl
              have qN_1 := HBN.out.cell 1 rfl
              go_wp2_with fail
              refine hx.mono ?_
              rintro e v23 ⟨qa23, qc23, aa23, ac23, rfl, hn, hb⟩
              clear hx
              clear qN_0 qN_1
              have HNB := Lib.hid (good_net.back hn (fun _ _ => trivial) (by intro b hb; have hbC := HBbC.out.lt; have hbD := HBbD.out.lt; simp at hb; omega))
              clear hn
              have BV := HBbD.out.below hb
              have qV_0 := BV.cell 0 rfl
              have fV_0 := BV.free 0
              have qV_1 := BV.cell 1 rfl
              have fV_1 := BV.free 1
              go_upto_region 23 with (fail)
              clear BV qV_0 qV_1 fV_0 fV_1
              refine wp_name ?_
              intro W15 hW15
              have HV15 : Hid (Step [v17.heap.size + 1, v18.heap.size + 1] v23 W15) := by
                rw [hW15]
                refine Lib.hid ?_
                repeat (first | (with_reducible exact (Step.refl [v17.heap.size + 1, v18.heap.size + 1] v23)) | (with_reducible refine Step.drew ?_) | (with_reducible refine Step.drewN ?_ _) | (with_reducible refine Step.alloc ?_ _) | ((with_reducible apply Step.setE); focus (first | (left; simp; done) | (right; simp; done) | (right; simp; omega) | (right; dsimp only; omega) | (right; omega))))
              have HS15 : Hid (Step [v17.heap.size + 1, v18.heap.size + 1] W14 W15) := Lib.hid ((Step.of_below hb).trans HV15.out)
              replace HBbC : Hid (Box W15 (v17.heap.size + 1) #[.slice qa22 M1.queue.length qc22, .slice aa22 M1.apart.length ac22] 25) := by
                rw [hW15]
                refine Lib.hid ?_
                repeat (first | (with_reducible exact (HBbC.out.below hb)) | (with_reducible exact Box.newE _ _ _ _ (by first | rfl | (simp; done))) | (with_reducible refine Box.drew ?_) | (with_reducible refine Box.drewN ?_ _) | (with_reducible refine Box.alloc ?_ _) | (with_reducible apply Box.setE) | ((with_reducible apply Box.otherE); first | (exact (by omega)) | (exact (by simp)) | (exact (by simp; omega))) | (exact (rfl : Array.setIfInBounds _ _ _ = _)))
              replace HBbD : Hid (Box W15 (v18.heap.size + 1) #[.slice qa23 M1.queue.length qc23, .slice aa23 M1.apart.length ac23] 25) := by
                rw [hW15]
                refine Lib.hid ?_
                repeat (first | (with_reducible exact (HBbD.out.below hb)) | (with_reducible exact Box.newE _ _ _ _ (by first | rfl | (simp; done))) | (with_reducible refine Box.drew ?_) | (with_reducible refine Box.drewN ?_ _) | (with_reducible refine Box.alloc ?_ _) | (with_reducible apply Box.setE) | ((with_reducible apply Box.otherE); first | (exact (by omega)) | (exact (by simp)) | (exact (by simp; omega))) | (exact (rfl : Array.setIfInBounds _ _ _ = _)))
              clear hW15
              have Dc23 : Hid (RNet (Dom (fun _ => True) [v17.heap.size + 1, v18.heap.size + 1] W15) W15 M1 [.slice qa23 M1.queue.length qc23, .slice aa23 M1.apart.length ac23]) := Lib.hid (good_net.step HNB.out HV15.out)
              clear HNB hb
              have hx := same_any M1 M1 qa22 qc22 aa22 ac22 qa23 qc23 aa23 ac23 W15 (good_net.now_ (good_net.step Dc22.out HS15.out)) (good_net.now_ Dc23.out)
              rw [sameB_refl] at hx
              have qbC_0 := HBbC.out.cell 0 rfl
              have qbC_1 := HBbC.out.cell 1 rfl
              have qbD_0 := HBbD.out.cell 0 rfl
              have qbD_1 := HBbD.out.cell 1 rfl
              go_wp2_with fail
              refine hx.mono ?_
              rintro e v23a ⟨rfl, hb⟩
              clear hx
              clear qbC_0 qbC_1 qbD_0 qbD_1
              go_upto_region 25 with (fail)
              refine wp_name ?_
              intro W16 hW16
              have HV16 : Hid (Step [v17.heap.size + 1, v18.heap.size + 1] v23a W16) := by
                rw [hW16]
                refine Lib.hid ?_
                repeat (first | (with_reducible exact (Step.refl [v17.heap.size + 1, v18.heap.size + 1] v23a)) | (with_reducible refine Step.drew ?_) | (with_reducible refine Step.drewN ?_ _) | (with_reducible refine Step.alloc ?_ _) | ((with_reducible apply Step.setE); focus (first | (left; simp; done) | (right; simp; done) | (right; simp; omega) | (right; dsimp only; omega) | (right; omega))))
              have HS16 : Hid (Step [v17.heap.size + 1, v18.heap.size + 1] W15 W16) := Lib.hid ((Step.of_below hb).trans HV16.out)
              replace HBbC : Hid (Box W16 (v17.heap.size + 1) #[.slice qa22 M1.queue.length qc22, .slice aa22 M1.apart.length ac22] 25) := by
                rw [hW16]
                refine Lib.hid ?_
                repeat (first | (with_reducible exact (HBbC.out.below hb)) | (with_reducible exact Box.newE _ _ _ _ (by first | rfl | (simp; done))) | (with_reducible refine Box.drew ?_) | (with_reducible refine Box.drewN ?_ _) | (with_reducible refine Box.alloc ?_ _) | (with_reducible apply Box.setE) | ((with_reducible apply Box.otherE); first | (exact (by omega)) | (exact (by simp)) | (exact (by simp; omega))) | (exact (rfl : Array.setIfInBounds _ _ _ = _)))
              replace HBbD : Hid (Box W16 (v18.heap.size + 1) #[.slice qa23 M1.queue.length qc23, .slice aa23 M1.apart.length ac23] 25) := by
                rw [hW16]
                refine Lib.hid ?_
                repeat (first | (with_reducible exact (HBbD.out.below hb)) | (with_reducible exact Box.newE _ _ _ _ (by first | rfl | (simp; done))) | (with_reducible refine Box.drew ?_) | (with_reducible refine Box.drewN ?_ _) | (with_reducible refine Box.alloc ?_ _) | (with_reducible apply Box.setE) | ((with_reducible apply Box.otherE); first | (exact (by omega)) | (exact (by simp)) | (exact (by simp; omega))) | (exact (rfl : Array.setIfInBounds _ _ _ = _)))
              clear hW16
              clear hb
              have hx := repeat_any n z qa qc aa ac W16 (Dom (fun _ => True) [v17.heap.size + 1, v18.heap.size + 1] W16) dom_lt (good_net.step DN.out (Step.trans (Step.trans (Step.trans HS13.out HS14.out) HS15.out) HS16.out))
              rw [← HR1.out, ← HG1.out] at hx
              replace HBN : Hid (Box W16 (w.heap.size) #[.slice qa n.queue.length qc, .slice aa n.apart.length ac] 25) := Lib.hid (HBN.out.step (Step.trans HS15.out HS16.out) (by (first | omega | (simp; done) | (simp; omega))))
              have qN_0 := HBN.out.cell 0 rfl
              have qN_1 := HBN.out.cell 1 rfl
              go_wp2_with fail
              refine hx.mono ?_
              rintro e v26 ⟨qa26, qc26, aa26, ac26, rfl, hn, hb⟩
              clear hx
              clear qN_0 qN_1
              have HNB := Lib.hid (good_net.back hn (fun _ _ => trivial) (by intro b hb; have hbC := HBbC.out.lt; have hbD := HBbD.out.lt; simp at hb; omega))
              clear hn
              have BV := HBbC.out.below hb
              have qV_0 := BV.cell 0 rfl
              have fV_0 := BV.free 0
              have qV_1 := BV.cell 1 rfl
              have fV_1 := BV.free 1
              go_upto_region 26 with (fail)
              clear BV qV_0 qV_1 fV_0 fV_1
              refine wp_name ?_
              intro W17 hW17
              have HV17 : Hid (Step [v17.heap.size + 1, v18.heap.size + 1] v26 W17) := by
                rw [hW17]
                refine Lib.hid ?_
                repeat (first | (with_reducible exact (Step.refl [v17.heap.size + 1, v18.heap.size + 1] v26)) | (with_reducible refine Step.drew ?_) | (with_reducible refine Step.drewN ?_ _) | (with_reducible refine Step.alloc ?_ _) | ((with_reducible apply Step.setE); focus (first | (left; simp; done) | (right; simp; done) | (right; simp; omega) | (right; dsimp only; omega) | (right; omega))))
              have HS17 : Hid (Step [v17.heap.size + 1, v18.heap.size + 1] W16 W17) := Lib.hid ((Step.of_below hb).trans HV17.out)
              replace HBbC : Hid (Box W17 (v17.heap.size + 1) #[.slice qa26 R1.queue.length qc26, .slice aa26 R1.apart.length ac26] 25) := by
                rw [hW17]
                refine Lib.hid ?_
                repeat (first | (with_reducible exact (HBbC.out.below hb)) | (with_reducible exact Box.newE _ _ _ _ (by first | rfl | (simp; done))) | (with_reducible refine Box.drew ?_) | (with_reducible refine Box.drewN ?_ _) | (with_reducible refine Box.alloc ?_ _) | (with_reducible apply Box.setE) | ((with_reducible apply Box.otherE); first | (exact (by omega)) | (exact (by simp)) | (exact (by simp; omega))) | (exact (rfl : Array.setIfInBounds _ _ _ = _)))
              replace HBbD : Hid (Box W17 (v18.heap.size + 1) #[.slice qa23 M1.queue.length qc23, .slice aa23 M1.apart.length ac23] 25) := by
                rw [hW17]
                refine Lib.hid ?_
                repeat (first | (with_reducible exact (HBbD.out.below hb)) | (with_reducible exact Box.newE _ _ _ _ (by first | rfl | (simp; done))) | (with_reducible refine Box.drew ?_) | (with_reducible refine Box.drewN ?_ _) | (with_reducible refine Box.alloc ?_ _) | (with_reducible apply Box.setE) | ((with_reducible apply Box.otherE); first | (exact (by omega)) | (exact (by simp)) | (exact (by simp; omega))) | (exact (rfl : Array.setIfInBounds _ _ _ = _)))
              clear hW17
              have Dc26 : Hid (RNet (Dom (fun _ => True) [v17.heap.size + 1, v18.heap.size + 1] W17) W17 R1 [.slice qa26 R1.queue.length qc26, .slice aa26 R1.apart.length ac26]) := Lib.hid (good_net.step HNB.out HV17.out)
              clear HNB hb
              have hx := rrepeat_any n z qa qc aa ac W17 (Dom (fun _ => True) [v17.heap.size + 1, v18.heap.size + 1] W17) dom_lt (good_net.step DN.out (Step.trans (Step.trans (Step.trans (Step.trans HS13.out HS14.out) HS15.out) HS16.out) HS17.out))
              rw [← HR1.out, ← HG1.out] at hx
              replace HBN : Hid (Box W17 (w.heap.size) #[.slice qa n.queue.length qc, .slice aa n.apart.length ac] 25) := Lib.hid (HBN.out.step HS17.out (by (first | omega | (simp; done) | (simp; omega))))
              have qN_0 := HBN.out.cell 0 rfl
              have qN_1 := HBN.out.cell 1 rfl
              go_wp2_with fail
              refine hx.mono ?_
              rintro e v27 ⟨qa27, qc27, aa27, ac27, rfl, hn, hb⟩
              clear hx
              clear qN_0 qN_1
              have HNB := Lib.hid (good_net.back hn (fun _ _ => trivial) (by intro b hb; have hbC := HBbC.out.lt; have hbD := HBbD.out.lt; simp at hb; omega))
              clear hn
              have BV := HBbD.out.below hb
              have qV_0 := BV.cell 0 rfl
              have fV_0 := BV.free 0
              have qV_1 := BV.cell 1 rfl
              have fV_1 := BV.free 1
              go_upto_region 27 with (fail)
              clear BV qV_0 qV_1 fV_0 fV_1
              refine wp_name ?_
              intro W18 hW18
              have HV18 : Hid (Step [v17.heap.size + 1, v18.heap.size + 1] v27 W18) := by
                rw [hW18]
                refine Lib.hid ?_
                repeat (first | (with_reducible exact (Step.refl [v17.heap.size + 1, v18.heap.size + 1] v27)) | (with_reducible refine Step.drew ?_) | (with_reducible refine Step.drewN ?_ _) | (with_reducible refine Step.alloc ?_ _) | ((with_reducible apply Step.setE); focus (first | (left; simp; done) | (right; simp; done) | (right; simp; omega) | (right; dsimp only; omega) | (right; omega))))
              have HS18 : Hid (Step [v17.heap.size + 1, v18.heap.size + 1] W17 W18) := Lib.hid ((Step.of_below hb).trans HV18.out)
              replace HBbC : Hid (Box W18 (v17.heap.size + 1) #[.slice qa26 R1.queue.length qc26, .slice aa26 R1.apart.length ac26] 25) := by
                rw [hW18]
                refine Lib.hid ?_
                repeat (first | (with_reducible exact (HBbC.out.below hb)) | (with_reducible exact Box.newE _ _ _ _ (by first | rfl | (simp; done))) | (with_reducible refine Box.drew ?_) | (with_reducible refine Box.drewN ?_ _) | (with_reducible refine Box.alloc ?_ _) | (with_reducible apply Box.setE) | ((with_reducible apply Box.otherE); first | (exact (by omega)) | (exact (by simp)) | (exact (by simp; omega))) | (exact (rfl : Array.setIfInBounds _ _ _ = _)))
              replace HBbD : Hid (Box W18 (v18.heap.size + 1) #[.slice qa27 R1.queue.length qc27, .slice aa27 R1.apart.length ac27] 25) := by
                rw [hW18]
                refine Lib.hid ?_
                repeat (first | (with_reducible exact (HBbD.out.below hb)) | (with_reducible exact Box.newE _ _ _ _ (by first | rfl | (simp; done))) | (with_reducible refine Box.drew ?_) | (with_reducible refine Box.drewN ?_ _) | (with_reducible refine Box.alloc ?_ _) | (with_reducible apply Box.setE) | ((with_reducible apply Box.otherE); first | (exact (by omega)) | (exact (by simp)) | (exact (by simp; omega))) | (exact (rfl : Array.setIfInBounds _ _ _ = _)))
              clear hW18
              have Dc27 : Hid (RNet (Dom (fun _ => True) [v17.heap.size + 1, v18.heap.size + 1] W18) W18 R1 [.slice qa27 R1.queue.length qc27, .slice aa27 R1.apart.length ac27]) := Lib.hid (good_net.step HNB.out HV18.out)
              clear HNB hb
              have hx := same_any R1 R1 qa26 qc26 aa26 ac26 qa27 qc27 aa27 ac27 W18 (good_net.now_ (good_net.step Dc26.out HS18.out)) (good_net.now_ Dc27.out)
              rw [sameB_refl] at hx
              have qbC_0 := HBbC.out.cell 0 rfl
              have qbC_1 := HBbC.out.cell 1 rfl
              have qbD_0 := HBbD.out.cell 0 rfl
              have qbD_1 := HBbD.out.cell 1 rfl
              go_wp2_with fail
              refine hx.mono ?_
              rintro e v27a ⟨rfl, hb⟩
              clear hx
              clear qbC_0 qbC_1 qbD_0 qbD_1
              have hj1 : (j : Int) < (l.length : Int) := by omega
              go_wp2_with fail
              go_roundw
              case rel => exact ⟨j + 1, by omega, by go_num, Step.below (Step.then_from (Step.refl [] wr) (Nat.le_refl _) (Step.to_below (Step.trans (Step.trans (Step.trans (Step.trans (Step.trans (Step.trans (Step.trans (Step.trans (HS10.out.more (S' := [v17.heap.size + 1, v18.heap.size + 1]) (by simp)) (HS11.out.more (S' := [v17.heap.size + 1, v18.heap.size + 1]) (by simp))) (HS12.out.more (S' := [v17.heap.size + 1, v18.heap.size + 1]) (by simp))) HS13.out) HS14.out) HS15.out) HS16.out) HS17.out) HS18.out) (by intro b hb; simp at hb; omega)) |> fun h => HS9.out.trans h) hb⟩
              case measure => simp [intOf]; omega
            · have hj' : j = l.length := by omega
              subst hj'
              go_wp2
              go_ret
              exact ⟨rfl, (Step.to_below (Step.trans (Step.trans (Step.trans (Step.trans (Step.trans (Step.trans (Step.trans (Step.trans HS1.out HS2.out) HS3.out) HS4.out) HS5.out) HS6.out) HS7.out) HS8.out) HS9.out) (noS w))⟩
end Go.Proofs.Ytmlhpchabnajkaa
