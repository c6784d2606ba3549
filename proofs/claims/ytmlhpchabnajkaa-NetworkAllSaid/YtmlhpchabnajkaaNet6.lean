/- network: a packet of the queue, a link that is cut -/
import Derived.Test.YtmlhpchabnajkaaNet5
namespace Go.Proofs.Ytmlhpchabnajkaa
set_option linter.unusedSimpArgs false
set_option linter.unusedVariables false
open Go.RowKit
attribute [local go_sem ↓] Go.wp_at_zero Go.wp_at_succ
set_option maxRecDepth 100000 in
set_option maxHeartbeats 3000000 in
theorem isCut_any (n : NetM) (a b : Int) (qa : Option Addr) (qc : Nat) (aa : Option Addr) (ac : Nat) (w : World) (hr : RNet (Now w) w n [.slice qa n.queue.length qc, .slice aa n.apart.length ac]) :
    Calls Try.prog 40 #[.agg #[.slice qa n.queue.length qc, .slice aa n.apart.length ac], .int .i64 a, .int .i64 b] w (Gives (.bool (cutB n.apart a b)) w) := by
  obtain ⟨_, _, _, _, e, h1, h2, h3, h4, h5, h6⟩ := hr
  cases e
  have HA := Lib.hid h6
  clear h3 h6
  have HZ : Hid (cutB n.apart a b = n.apart.contains (linkOf a b)) := rfl
  unfold Gives
  generalize cutB n.apart a b = z at *
  go_enter Try.func40, Try.ntmps40
  rcases Int.lt_or_le b a with hab | hab
  · have hm : linkOf a b = (b, a) := by unfold linkOf; rw [Int.min_eq_right (by omega), Int.max_eq_left (by omega)]
    rw [hm] at HZ
    clear hm
    have hab2 : b ≤ a := by omega
    go_wp2
    go_loopw [7] (fun i wr => ∃ k : Nat, k ≤ n.apart.length ∧ i = .int .i64 k ∧ Hid ((n.apart.take k).contains (b, a) = false) ∧ Hid (Below (w.heap.size + 1) (w.alloc (.cells #[.slice qa n.queue.length qc, .slice aa n.apart.length ac] 25)) wr)) (fun i _ => n.apart.length - (intOf i).toNat)
    case atStart => exact ⟨0, Nat.zero_le _, rfl, by simp [Hid], Below.refl _ _⟩
    case round =>
      obtain ⟨k, hk, rfl, hf, HB⟩ := hrel
      have HBW := Lib.hid ((below_new w _).trans (HB.out.mono (by omega)))
      have y1 : wr.cell? ⟨w.heap.size, 1, none⟩ = some (.slice aa n.apart.length ac) := (HB.out.cell (by simp)).trans (by go_simp)
      by_cases hlt : k < n.apart.length
      · obtain ⟨ba, off, rfl, g0, g1, _, _⟩ := RPr.at (HA.out.below good_pr HBW.out) k hlt
        have HT := Lib.hid (contains_take n.apart (b, a) k hlt)
        have HIN : Hid (n.apart[k] = (b, a) → z = true) := fun h => by rw [HZ.out, ← h]; simp
        generalize n.apart[k] = x at *
        obtain ⟨x1, x2⟩ := x
        simp only at g0 g1
        by_cases e1 : x1 = b ∧ x2 = a
        · obtain ⟨rfl, rfl⟩ := e1
          have HI := Lib.hid (HIN.out rfl)
          clear HIN
          go_wp2
          go_ret
          exact ⟨ret_bool HI.out.symm, HBW.out⟩
        · have HX : Hid (((b, a) == (x1, x2)) = false) := by
            unfold Hid
            rw [beq_eq_false_iff_ne]
            intro h
            cases h
            exact e1 ⟨rfl, rfl⟩
          by_cases e2 : x1 = b
          · have e3 : (x2 == a) = false := by simp; intro h; exact e1 ⟨e2, h⟩
            have e2' : (x1 == b) = true := by simpa using e2
            clear e1 e2 HIN
            go_wp2
            go_roundw
            case rel => exact ⟨k + 1, by omega, by go_num, by unfold Hid; rw [HT.out, hf.out, HX.out]; rfl, HB⟩
            case measure => simp [intOf]; omega
          · have e2' : (x1 == b) = false := by simpa using e2
            clear e1 e2 HIN
            go_wp2
            go_roundw
            case rel => exact ⟨k + 1, by omega, by go_num, by unfold Hid; rw [HT.out, hf.out, HX.out]; rfl, HB⟩
            case measure => simp [intOf]; omega
      · go_wp2
        go_ret
        exact ⟨ret_bool (by rw [HZ.out]; have h := hf.out; rw [List.take_of_length_le (by omega)] at h; exact h.symm), HBW.out⟩
  · rcases Int.lt_or_eq_of_le hab with hab1 | hab1
    · have hm : linkOf a b = (a, b) := by unfold linkOf; rw [Int.min_eq_left (by omega), Int.max_eq_right (by omega)]
      rw [hm] at HZ
      clear hm
      go_wp2
      go_loopw [7] (fun i wr => ∃ k : Nat, k ≤ n.apart.length ∧ i = .int .i64 k ∧ Hid ((n.apart.take k).contains (a, b) = false) ∧ Hid (Below (w.heap.size + 1) (w.alloc (.cells #[.slice qa n.queue.length qc, .slice aa n.apart.length ac] 25)) wr)) (fun i _ => n.apart.length - (intOf i).toNat)
      case atStart => exact ⟨0, Nat.zero_le _, rfl, by simp [Hid], Below.refl _ _⟩
      case round =>
        obtain ⟨k, hk, rfl, hf, HB⟩ := hrel
        have HBW := Lib.hid ((below_new w _).trans (HB.out.mono (by omega)))
        have y1 : wr.cell? ⟨w.heap.size, 1, none⟩ = some (.slice aa n.apart.length ac) := (HB.out.cell (by simp)).trans (by go_simp)
        by_cases hlt : k < n.apart.length
        · obtain ⟨ba, off, rfl, g0, g1, _, _⟩ := RPr.at (HA.out.below good_pr HBW.out) k hlt
          have HT := Lib.hid (contains_take n.apart (a, b) k hlt)
          have HIN : Hid (n.apart[k] = (a, b) → z = true) := fun h => by rw [HZ.out, ← h]; simp
          generalize n.apart[k] = x at *
          obtain ⟨x1, x2⟩ := x
          simp only at g0 g1
          by_cases e1 : x1 = a ∧ x2 = b
          · obtain ⟨rfl, rfl⟩ := e1
            have HI := Lib.hid (HIN.out rfl)
            clear HIN
            go_wp2
            go_ret
            exact ⟨ret_bool HI.out.symm, HBW.out⟩
          · have HX : Hid (((a, b) == (x1, x2)) = false) := by
              unfold Hid
              rw [beq_eq_false_iff_ne]
              intro h
              cases h
              exact e1 ⟨rfl, rfl⟩
            by_cases e2 : x1 = a
            · have e3 : (x2 == b) = false := by simp; intro h; exact e1 ⟨e2, h⟩
              have e2' : (x1 == a) = true := by simpa using e2
              clear e1 e2 HIN
              go_wp2
              go_roundw
              case rel => exact ⟨k + 1, by omega, by go_num, by unfold Hid; rw [HT.out, hf.out, HX.out]; rfl, HB⟩
              case measure => simp [intOf]; omega
            · have e2' : (x1 == a) = false := by simpa using e2
              clear e1 e2 HIN
              go_wp2
              go_roundw
              case rel => exact ⟨k + 1, by omega, by go_num, by unfold Hid; rw [HT.out, hf.out, HX.out]; rfl, HB⟩
              case measure => simp [intOf]; omega
        · go_wp2
          go_ret
          exact ⟨ret_bool (by rw [HZ.out]; have h := hf.out; rw [List.take_of_length_le (by omega)] at h; exact h.symm), HBW.out⟩
    · subst hab1
      have hm : linkOf a a = (a, a) := by unfold linkOf; rw [Int.min_eq_left (by omega), Int.max_eq_left (by omega)]
      rw [hm] at HZ
      clear hm
      go_wp2
      go_loopw [7] (fun i wr => ∃ k : Nat, k ≤ n.apart.length ∧ i = .int .i64 k ∧ Hid ((n.apart.take k).contains (a, a) = false) ∧ Hid (Below (w.heap.size + 1) (w.alloc (.cells #[.slice qa n.queue.length qc, .slice aa n.apart.length ac] 25)) wr)) (fun i _ => n.apart.length - (intOf i).toNat)
      case atStart => exact ⟨0, Nat.zero_le _, rfl, by simp [Hid], Below.refl _ _⟩
      case round =>
        obtain ⟨k, hk, rfl, hf, HB⟩ := hrel
        have HBW := Lib.hid ((below_new w _).trans (HB.out.mono (by omega)))
        have y1 : wr.cell? ⟨w.heap.size, 1, none⟩ = some (.slice aa n.apart.length ac) := (HB.out.cell (by simp)).trans (by go_simp)
        by_cases hlt : k < n.apart.length
        · obtain ⟨ba, off, rfl, g0, g1, _, _⟩ := RPr.at (HA.out.below good_pr HBW.out) k hlt
          have HT := Lib.hid (contains_take n.apart (a, a) k hlt)
          have HIN : Hid (n.apart[k] = (a, a) → z = true) := fun h => by rw [HZ.out, ← h]; simp
          generalize n.apart[k] = x at *
          obtain ⟨x1, x2⟩ := x
          simp only at g0 g1
          by_cases e1 : x1 = a ∧ x2 = a
          · obtain ⟨rfl, rfl⟩ := e1
            have HI := Lib.hid (HIN.out rfl)
            clear HIN
            go_wp2
            go_ret
            exact ⟨ret_bool HI.out.symm, HBW.out⟩
          · have HX : Hid (((a, a) == (x1, x2)) = false) := by
              unfold Hid
              rw [beq_eq_false_iff_ne]
              intro h
              cases h
              exact e1 ⟨rfl, rfl⟩
            by_cases e2 : x1 = a
            · have e3 : (x2 == a) = false := by simp; intro h; exact e1 ⟨e2, h⟩
              have e2' : (x1 == a) = true := by simpa using e2
              clear e1 e2 HIN
              go_wp2
              go_roundw
              case rel => exact ⟨k + 1, by omega, by go_num, by unfold Hid; rw [HT.out, hf.out, HX.out]; rfl, HB⟩
              case measure => simp [intOf]; omega
            · have e2' : (x1 == a) = false := by simpa using e2
              clear e1 e2 HIN
              go_wp2
              go_roundw
              case rel => exact ⟨k + 1, by omega, by go_num, by unfold Hid; rw [HT.out, hf.out, HX.out]; rfl, HB⟩
              case measure => simp [intOf]; omega
        · go_wp2
          go_ret
          exact ⟨ret_bool (by rw [HZ.out]; have h := hf.out; rw [List.take_of_length_le (by omega)] at h; exact h.symm), HBW.out⟩
theorem askE_cases (n : NetM) (i : Int) : (chk n ≠ 0 ∧ askE n i = 60) ∨ (chk n = 0 ∧ ¬ (0 ≤ i ∧ i < n.queue.length) ∧ askE n i = 1) ∨ (chk n = 0 ∧ 0 ≤ i ∧ i < n.queue.length ∧ askE n i = 0) := by
  unfold askE chk
  cases netB n
  · left; simp
  · right
    by_cases h : 0 ≤ i ∧ i < n.queue.length
    · right; simp [h]
    · left; simp [h]
theorem asked_any (n : NetM) (i : Int) (qa : Option Addr) (qc : Nat) (aa : Option Addr) (ac : Nat) (w : World) (hr : RNet (Now w) w n [.slice qa n.queue.length qc, .slice aa n.apart.length ac]) :
    Calls Try.prog 41 #[.agg #[.slice qa n.queue.length qc, .slice aa n.apart.length ac], .int .i64 i] w (Gives (.int .i64 (askE n i)) w) := by
  have HR := Lib.hid hr
  clear hr
  have key := askE_cases n i
  unfold Gives
  have HK := Lib.hid key
  clear key
  generalize askE n i = z at *
  go_enter Try.func41, Try.ntmps41
  go_wp2_with fail
  refine (rcheck_any n qa qc aa ac _ (good_net.below (below_new _ _) HR.out)).mono ?_
  rintro e w1 ⟨rfl, hb1⟩
  have x0 : w1.cell? ⟨w.heap.size, 0, none⟩ = some (.slice qa n.queue.length qc) := (hb1.cell (by simp)).trans (by go_simp)
  have HB1 := Lib.hid ((below_new w _).trans (hb1.mono (by simp)))
  clear hb1
  have key := HK.out
  clear HK
  generalize chk n = c at *
  rcases key with ⟨h1, h2⟩ | ⟨h1, h2, h3⟩ | ⟨h1, h2, h3, h4⟩
  · subst h2
    go_wp2
    go_ret
    exact ⟨rfl, HB1.out⟩
  · subst h1 h3
    by_cases hi : i < 0
    · go_wp2
      go_ret
      exact ⟨rfl, HB1.out⟩
    · have hi2 : (n.queue.length : Int) ≤ i := by omega
      clear h2
      go_wp2
      go_ret
      exact ⟨rfl, HB1.out⟩
  · subst h1 h4
    go_wp2
    go_ret
    exact ⟨rfl, HB1.out⟩
end Go.Proofs.Ytmlhpchabnajkaa
