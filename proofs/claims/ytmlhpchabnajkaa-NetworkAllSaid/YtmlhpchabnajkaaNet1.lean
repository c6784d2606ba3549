/- network: links and packets, checked -/
import Derived.Test.YtmlhpchabnajkaaNetRep
namespace Go.Proofs.Ytmlhpchabnajkaa
set_option linter.unusedSimpArgs false
set_option linter.unusedVariables false
open Go.RowKit
theorem below_new (w : World) (o : Obj) : Below w.heap.size w (w.alloc o) := (Below.refl _ _).alloc (Nat.le_refl _) _
theorem between_any (a b : Int) (w : World) : Calls Try.prog 37 #[.int .i64 a, .int .i64 b] w (Gives (.agg #[.int .i64 (min a b), .int .i64 (max a b)]) w) := by
  unfold Gives
  go_enter Try.func37, Try.ntmps37
  go_wp2
  all_goals
    have e1 : min a b = a ∨ min a b = b := by omega
    refine bodyPost_ret (v := .agg #[.int .i64 (min a b), .int .i64 (max a b)]) ?_ rfl ⟨rfl, below_new _ _⟩
    first
      | (rw [show min a b = a by omega, show max a b = b by omega]; simp [results, Try.results37, go_sem] <;> omega)
      | (rw [show min a b = b by omega, show max a b = a by omega]; simp [results, Try.results37, go_sem] <;> omega)
      | (have e3 : b = a := by omega
         subst e3
         rw [show min b b = b by omega, show max b b = b by omega]; simp [results, Try.results37, go_sem] <;> omega)
theorem valid_any (a b : Int) (w : World) : Calls Try.prog 32 #[.agg #[.int .i64 a, .int .i64 b]] w (Gives (.bool (validB a b)) w) := by
  unfold Gives
  go_enter Try.func32, Try.ntmps32
  go_wp2
  all_goals
    go_ret
    refine ⟨ret_bool ?_, below_new _ _⟩
    rw [Bool.eq_iff_iff]
    simp only [validB, Bool.and_eq_true, decide_eq_true_eq, Bool.false_eq_true, iff_false, false_iff, iff_true, true_iff]
    omega
theorem packet_any (p : Pkt) (a : Option Addr) (cap : Nat) (w : World) (hl : p.data.length ≤ 140737488351232) : Calls Try.prog 28 #[.agg #[.int .i64 p.src, .int .i64 p.dst, .slice a p.data.length cap]] w (Gives (.bool (pktB p)) w) := by
  unfold Gives
  go_enter Try.func28, Try.ntmps28
  go_wp2_with fail
  refine (between_any _ _ _).mono ?_
  rintro e w1 ⟨rfl, hb1⟩
  have x2 : w1.cell? ⟨w.heap.size, 2, none⟩ = some (.slice a p.data.length cap) := (hb1.cell (by simp)).trans (by go_simp)
  have HB1 := Lib.hid ((below_new w _).trans (hb1.mono (by simp)))
  clear hb1
  go_wp2_with fail
  refine (valid_any _ _ _).mono ?_
  rintro e w2 ⟨rfl, hb2⟩
  have y2 := below_cell hb2 x2
  have HB2 := Lib.hid (HB1.out.trans (hb2.mono HB1.out.size))
  clear hb2 x2 HB1
  have HP : Hid (pktB p = (validB (min p.src p.dst) (max p.src p.dst) && decide (p.data.length ≤ 1048576))) := rfl
  generalize validB (min p.src p.dst) (max p.src p.dst) = vb at *
  cases vb
  all_goals
    go_wp2
    go_ret
    exact ⟨ret_bool (by rw [HP.out]; simp <;> omega), HB2.out⟩
theorem check1_any (p : Pkt) (a : Option Addr) (cap : Nat) (w : World) (hl : p.data.length ≤ 140737488351232) : Calls Try.prog 31 #[.agg #[.int .i64 p.src, .int .i64 p.dst, .slice a p.data.length cap]] w (Gives (.bool (!pktB p)) w) := by
  unfold Gives
  go_enter Try.func31, Try.ntmps31
  go_wp2_with fail
  refine (packet_any p _ _ _ hl).mono ?_
  rintro e w1 ⟨rfl, hb1⟩
  have HB1 := Lib.hid ((below_new w _).trans (hb1.mono (by simp)))
  clear hb1
  go_wp2
  go_ret
  exact ⟨rfl, HB1.out⟩
theorem site_any (n : Int) (w : World) : Calls Try.prog 34 #[.int .i64 n] w (Gives (.bool (siteB n)) w) := by
  unfold Gives
  go_enter Try.func34, Try.ntmps34
  go_wp2
  all_goals
    go_ret
    refine ⟨ret_bool ?_, Below.refl _ _⟩
    rw [Bool.eq_iff_iff]
    simp only [siteB, Bool.and_eq_true, decide_eq_true_eq, Bool.false_eq_true, iff_false, false_iff, iff_true, true_iff]
    omega
theorem pktB_sites (p : Pkt) : pktB p = (siteB p.src && (siteB p.dst && ((p.src != p.dst) && decide (p.data.length ≤ 1048576)))) := by
  rw [Bool.eq_iff_iff, pktB_iff]
  simp only [siteB, Bool.and_eq_true, decide_eq_true_eq, bne_iff_ne]
  omega
theorem rpacket_any (p : Pkt) (a : Option Addr) (cap : Nat) (w : World) (hl : p.data.length ≤ 140737488351232) : Calls Try.prog 29 #[.agg #[.int .i64 p.src, .int .i64 p.dst, .slice a p.data.length cap]] w (Gives (.bool (pktB p)) w) := by
  have HP := Lib.hid (pktB_sites p)
  unfold Gives
  go_enter Try.func29, Try.ntmps29
  go_wp2_with fail
  refine (site_any _ _).mono ?_
  rintro e w1 ⟨rfl, hb1⟩
  have x0 : w1.cell? ⟨w.heap.size, 0, none⟩ = some (.int .i64 p.src) := (hb1.cell (by simp)).trans (by go_simp)
  have x1 : w1.cell? ⟨w.heap.size, 1, none⟩ = some (.int .i64 p.dst) := (hb1.cell (by simp)).trans (by go_simp)
  have x2 : w1.cell? ⟨w.heap.size, 2, none⟩ = some (.slice a p.data.length cap) := (hb1.cell (by simp)).trans (by go_simp)
  have HB1 := Lib.hid ((below_new w _).trans (hb1.mono (by simp)))
  clear hb1
  generalize siteB p.src = s1 at *
  cases s1
  · go_wp2_with fail
    go_ret
    exact ⟨ret_bool (by rw [HP.out]; simp), HB1.out⟩
  · go_wp2_with fail
    refine (site_any _ _).mono ?_
    rintro e w2 ⟨rfl, hb2⟩
    have y0 := below_cell hb2 x0
    have y1 := below_cell hb2 x1
    have y2 := below_cell hb2 x2
    have HB2 := Lib.hid (HB1.out.trans (hb2.mono HB1.out.size))
    clear hb2 x0 x1 x2 HB1
    generalize siteB p.dst = s2 at *
    cases s2
    all_goals
      go_wp2
      all_goals
        go_ret
        refine ⟨ret_bool ?_, HB2.out⟩
        rw [HP.out, Bool.eq_iff_iff]
        simp only [Bool.and_eq_true, decide_eq_true_eq, bne_iff_ne, Bool.false_eq_true, false_and, and_false, true_and, ne_eq, iff_false, false_iff, iff_true, true_iff]
        try omega
theorem nnew_any (w : World) : Calls Try.prog 16 #[] w (Gives (.agg #[.slice none 0 0, .slice none 0 0]) w) := by
  unfold Gives
  go_enter Try.func16, Try.ntmps16
  go_wp2
  exact bodyPost_ret (v := .agg #[.slice none 0 0, .slice none 0 0]) (by simp [results, Try.results16, go_sem]) rfl ⟨rfl, below_new _ _⟩
theorem rnew_any (w : World) : Calls Try.prog 17 #[] w (Gives (.agg #[.slice none 0 0, .slice none 0 0]) w) := by
  unfold Gives
  go_enter Try.func17, Try.ntmps17
  go_wp2
  exact bodyPost_ret (v := .agg #[.slice none 0 0, .slice none 0 0]) (by simp [results, Try.results17, go_sem]) rfl ⟨rfl, below_new _ _⟩
def cmpI (a b : Int) : Int := if a < b then -1 else if b < a then 1 else 0
theorem isNaN_any (n : Int) (w : World) : Calls Try.prog 47 #[.int .i64 n] w (Gives (.bool false) w) := by
  unfold Gives
  go_enter Try.func47, Try.ntmps47
  go_wp2
  go_ret
  exact ⟨by simp, Below.refl _ _⟩
theorem cmpInt_any (a b : Int) (w : World) : Calls Try.prog 44 #[.int .i64 a, .int .i64 b] w (Gives (.int .i64 (cmpI a b)) w) := by
  unfold Gives
  go_enter Try.func44, Try.ntmps44
  go_wp2
  all_goals
    go_ret
    refine ⟨ret_int ?_, Below.refl _ _⟩
    unfold cmpI
    first
      | rw [if_pos (by omega)]
      | rw [if_neg (by omega), if_pos (by omega)]
      | rw [if_neg (by omega), if_neg (by omega)]
end Go.Proofs.Ytmlhpchabnajkaa
