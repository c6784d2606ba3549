/- the law CodecNumbers -/
import Derived.Test.YtedkoifbjmemdaaSane
namespace Go.Proofs.Ytedkoifbjmemdaa
open Go.RowKit
attribute [local go_sem ↓] Go.wp_at_zero Go.wp_at_succ

def vi (x : Int) : V := .mk 1 x [] []
theorem vi_ok (x : Int) : (vi x).ok = true := by simp [vi, V.ok]
theorem vi_depth (x : Int) : (vi x).depth = 0 := by simp [vi, V.depth]
theorem vi_chk (x : Int) : (vi x).chk = 0 := by rw [V.chk_of, if_pos (vi_ok x), vi_depth]; rfl
theorem vi_enc (x : Int) : (vi x).enc = 1 :: num (zz x) := by simp [vi, V.enc]
theorem vi_out (x : Int) : (vi x).out = (vi x).enc := by unfold V.out; rw [if_pos (vi_chk x)]
theorem vi_len (x : Int) : 2 ≤ (vi x).enc.length ∧ (vi x).enc.length ≤ 11 := by
  rw [vi_enc, List.length_cons]
  have := num_pos (zz x)
  have := num_le (zz x)
  omega
theorem vi_mono {x y : Int} (h : 0 ≤ x ∧ x ≤ y ∨ x < 0 ∧ y ≤ x) : (vi x).enc.length ≤ (vi y).enc.length := by
  rw [vi_enc, vi_enc, List.length_cons, List.length_cons]
  have : zz x ≤ zz y := by unfold zz; split <;> split <;> omega
  have := num_mono this
  omega
theorem vi_dec (x : Int) (h : i64R x) : dec (vi x).enc = some (vi x) := by
  have := V.dec_enc (vi x) 16 [] (vi_ok x) (by rw [vi_depth]; omega) (by
    unfold vi
    simp only [V.fits, V.fitss, List.length_nil]
    exact ⟨by unfold i64R; omega, h, by omega, by omega, trivial⟩)
  rw [List.append_nil] at this
  unfold dec
  rw [this]
theorem vi_rep {W : World} {x : Int} {c : Value} (h : RepV W (vi x) c) : ∃ a cap, c = .agg #[.int .i64 1, .int .i64 x, .string ⟨#[]⟩, .slice a 0 cap] := by
  unfold vi at h
  simp only [RepV, List.length_nil] at h
  obtain ⟨a, cap, rfl, _⟩ := h
  exact ⟨a, cap, rfl⟩

set_option maxRecDepth 100000 in
set_option maxHeartbeats 1600000 in
theorem law9_any (x y : Int) (hx : i64R x) (hy : i64R y) (w : World) : Calls Try.prog 9 #[.int .i64 x, .int .i64 y] w (Gives (.bool true) w) := by
  have HX := Lib.hid hx
  have HY := Lib.hid hy
  go_enter Try.func9, Try.ntmps9
  go_wp2_with fail
  refine (sane_any _).mono ?_
  rintro e w1 ⟨rfl, hb1⟩
  go_wp2_with fail
  refine (int_any _ _).mono ?_
  rintro e w2 ⟨rfl, hb2⟩
  go_wp2_with fail
  refine (size_any (vi x) _ _ (by rw [vi_depth]; omega) (by have := vi_len x; omega) (int_rep _ _ HX.out)).mono ?_
  rintro e w3 ⟨rfl, hb3⟩
  rw [vi_chk, vi_out]
  go_wp2_with fail
  refine (int_any _ _).mono ?_
  rintro e w4 ⟨rfl, hb4⟩
  go_wp2_with fail
  refine (size_any (vi y) _ _ (by rw [vi_depth]; omega) (by have := vi_len y; omega) (int_rep _ _ HY.out)).mono ?_
  rintro e w5 ⟨rfl, hb5⟩
  rw [vi_chk, vi_out]
  have hb := hb1.trans ((((hb2.trans (hb3.mono hb2.size)).trans ((hb4.trans (hb5.mono hb4.size)).mono (hb2.trans (hb3.mono hb2.size)).size))).mono hb1.size)
  have HB := Lib.hid hb
  have hmx := vi_len x
  have hmy := vi_len y
  have hmono := @vi_mono x y
  clear hb hb1 hb2 hb3 hb4 hb5
  have HE : Hid (∀ W, Calls Try.prog 12 #[.agg #[.int .i64 1, .int .i64 x, .string ⟨#[]⟩, .slice none 0 0]] W (EncB (vi x) W)) := fun W => (encode_any (vi x) W _ (by rw [vi_depth]; omega) (by omega) (int_rep _ _ HX.out)).mono fun _ _ h => h.bytes
  have HVO := Lib.hid (vi_out x)
  have HVD := Lib.hid (vi_dec x HX.out)
  generalize hm : (vi x).enc.length = m at *
  generalize (vi y).enc.length = n at *
  have HM := Lib.hid hm
  obtain ⟨m1, m2⟩ := hmx
  obtain ⟨n1, n2⟩ := hmy
  have fin : ∀ (K : Act → World → Prop), True := fun _ => trivial
  clear hx hy fin hm
  have g1 : ¬ ((m : Int) < 2) := by omega
  have g2 : ¬ ((11 : Int) < m) := by omega
  have g3 : ¬ ((n : Int) < 2) := by omega
  have g4 : ¬ ((11 : Int) < n) := by omega
  have key : (0 ≤ x ∧ x ≤ y ∧ ¬ ((n : Int) < m)) ∨ (0 ≤ x ∧ ¬ x ≤ y) ∨ (¬ 0 ≤ x ∧ x < 0 ∧ y ≤ x ∧ ¬ ((n : Int) < m)) ∨ (¬ 0 ≤ x ∧ x < 0 ∧ ¬ y ≤ x) := by
    by_cases h1 : 0 ≤ x
    · by_cases h2 : x ≤ y
      · exact .inl ⟨h1, h2, by have := hmono (.inl ⟨h1, h2⟩); omega⟩
      · exact .inr (.inl ⟨h1, h2⟩)
    · by_cases h2 : y ≤ x
      · exact .inr (.inr (.inl ⟨h1, by omega, h2, by have := hmono (.inr ⟨by omega, h2⟩); omega⟩))
      · exact .inr (.inr (.inr ⟨h1, by omega, h2⟩))
  clear hmono
  rcases key with ⟨k1, k2, k3⟩ | ⟨k1, k2⟩ | ⟨k1, k2, k3, k4⟩ | ⟨k1, k2, k3⟩
  all_goals
    go_wp2_with fail
    refine (int_any _ _).mono ?_
    rintro e w6 ⟨rfl, hb6⟩
    go_wp2_with fail
    refine (HE.out _).mono ?_
    rintro e w7 ⟨a7, cap7, rfl, hby7, hc7, hl7, hb7⟩
    rw [HVO.out] at hby7 hc7
    rw [HVO.out, vi_chk]
    have hd := decode_any _ a7 cap7 w7 hc7 (by rw [HM.out]; omega) hby7 hl7
    go_wp2_with fail
    refine hd.mono ?_
    clear hd
    rintro e w8 ⟨c8, he, hv8, hb8⟩
    rw [HVD.out] at he hv8
    subst he
    obtain ⟨a8, cap8, rfl⟩ := vi_rep (x := x) hv8
    have h67 := hb6.trans (hb7.mono hb6.size)
    have h68 := h67.trans (hb8.mono h67.size)
    have h58 := HB.out.trans (h68.mono HB.out.size)
    have H9 := Lib.hid (h58.alloc h58.size (.cells #[.int .i64 1, .int .i64 x, .string ⟨#[]⟩, .slice a8 0 cap8] 24))
    clear h67 h68 h58 hb6 hb7 hb8 hv8 hby7 hc7 hl7
    go_wp2
    go_ret
    exact ⟨by simp, H9.out⟩
end Go.Proofs.Ytedkoifbjmemdaa
