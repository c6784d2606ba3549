/- the law CodecSameSpec -/
import Derived.Test.YtedkoifbjmemdaaCalm
namespace Go.Proofs.Ytedkoifbjmemdaa
open Go.RowKit
attribute [local go_sem ↓] Go.wp_at_zero Go.wp_at_succ
set_option maxRecDepth 100000 in
set_option maxHeartbeats 1600000 in
theorem law5_any (v v' : V) (c c' : Value) (w : World) (hr : RepV w v c) (hr' : RepV w v' c') : Calls Try.prog 5 #[c, c'] w (Gives (.bool true) w) := by
  obtain ⟨k0, n0, s0, a0, len0, cap0, rfl⟩ := hr.form
  obtain ⟨k1, n1, s1, a1, len1, cap1, rfl⟩ := hr'.form
  have HR := Lib.hid hr
  have HR' := Lib.hid hr'
  clear hr hr'
  go_enter Try.func5, Try.ntmps5
  go_wp2_with fail
  have hbA : Below w.heap.size w ((w.alloc (.cells #[.int .i64 k0, .int .i64 n0, .string s0, .slice a0 len0 cap0] 24)).alloc (.cells #[.int .i64 k1, .int .i64 n1, .string s1, .slice a1 len1 cap1] 24)) := ((Below.refl _ _).alloc (Nat.le_refl _) _).alloc (by simp) _
  refine (sane_any _).mono ?_
  rintro e w1 ⟨rfl, hb1⟩
  have x0 : w1.cell? ⟨w.heap.size, 0, none⟩ = some (.int .i64 k0) := (hb1.cell (by simp; omega)).trans (by go_simp)
  have x1 : w1.cell? ⟨w.heap.size, 1, none⟩ = some (.int .i64 n0) := (hb1.cell (by simp; omega)).trans (by go_simp)
  have x2 : w1.cell? ⟨w.heap.size, 2, none⟩ = some (.string s0) := (hb1.cell (by simp; omega)).trans (by go_simp)
  have x3 : w1.cell? ⟨w.heap.size, 3, none⟩ = some (.slice a0 len0 cap0) := (hb1.cell (by simp; omega)).trans (by go_simp)
  have y0 : w1.cell? ⟨w.heap.size + 1, 0, none⟩ = some (.int .i64 k1) := (hb1.cell (by simp)).trans (by go_simp)
  have y1 : w1.cell? ⟨w.heap.size + 1, 1, none⟩ = some (.int .i64 n1) := (hb1.cell (by simp)).trans (by go_simp)
  have y2 : w1.cell? ⟨w.heap.size + 1, 2, none⟩ = some (.string s1) := (hb1.cell (by simp)).trans (by go_simp)
  have y3 : w1.cell? ⟨w.heap.size + 1, 3, none⟩ = some (.slice a1 len1 cap1) := (hb1.cell (by simp)).trans (by go_simp)
  have hsz : w.heap.size + 1 < w1.heap.size := by have := hb1.size; simp at this; omega
  have hB1 := hbA.trans (hb1.mono hbA.size)
  have HB1 := Lib.hid hB1
  clear hb1 hbA
  go_wp2_with fail
  have hB2 := hB1.alloc hB1.size (.cells #[.int .i64 k0, .int .i64 n0, .string s0, .slice a0 len0 cap0, .int .i64 k1, .int .i64 n1, .string s1, .slice a1 len1 cap1] 24)
  have hrl := repL_two (RepV.below hB2 HR.out) (RepV.below hB2 HR'.out) (heap_alloc_new w1 _)
  refine (few_any [v, v'] _ 2 _ hrl (by simp) (by simp)).mono ?_
  rintro e w2 ⟨rfl, hb2⟩
  have hx : Below w1.heap.size w1 w2 := ((Below.refl _ _).alloc (Nat.le_refl _) _).trans (hb2.mono (by simp))
  have z0 := below_cell hx x0
  have z1 := below_cell hx x1
  have z2 := below_cell hx x2
  have z3 := below_cell hx x3
  have u0 := below_cell hx y0
  have u1 := below_cell hx y1
  have u2 := below_cell hx y2
  have u3 := below_cell hx y3
  have HB2 := Lib.hid (HB1.out.trans (hx.mono HB1.out.size))
  clear x0 x1 x2 x3 y0 y1 y2 y3 hx hb2 hrl hB2 hB1
  generalize fewB [v, v'] = f
  cases f
  · go_wp2
    go_ret
    exact ⟨rfl, HB2.out⟩
  · have p0 := fun p : Later w2 => p.cell z0
    have p1 := fun p : Later w2 => p.cell z1
    have p2 := fun p : Later w2 => p.cell z2
    have p3 := fun p : Later w2 => p.cell z3
    have q0 := fun p : Later w2 => p.cell u0
    have q1 := fun p : Later w2 => p.cell u1
    have q2 := fun p : Later w2 => p.cell u2
    have q3 := fun p : Later w2 => p.cell u3
    have HV : Hid (∀ p : Later w2, RepV p.W v (.agg #[.int .i64 k0, .int .i64 n0, .string s0, .slice a0 len0 cap0])) := fun p => RepV.below (HB2.out.trans (p.by_.mono HB2.out.size)) HR.out
    have HV' : Hid (∀ p : Later w2, RepV p.W v' (.agg #[.int .i64 k1, .int .i64 n1, .string s1, .slice a1 len1 cap1])) := fun p => RepV.below (HB2.out.trans (p.by_.mono HB2.out.size)) HR'.out
    have HSA : Hid (∀ p : Later w2, Calls Try.prog 21 #[.agg #[.int .i64 k0, .int .i64 n0, .string s0, .slice a0 len0 cap0], .agg #[.int .i64 k1, .int .i64 n1, .string s1, .slice a1 len1 cap1]] p.W (Gives (.bool (V.same v v')) p.W)) := fun p => same_any _ _ _ _ _ _ (Nat.le_refl _) (HV.out p) (HV'.out p)
    have HSR : Hid (∀ p : Later w2, Calls Try.prog 20 #[.agg #[.int .i64 k0, .int .i64 n0, .string s0, .slice a0 len0 cap0], .agg #[.int .i64 k1, .int .i64 n1, .string s1, .slice a1 len1 cap1]] p.W (Gives (.bool (V.same v v')) p.W)) := fun p => rsame_any _ _ _ _ _ _ (Nat.le_refl _) (HV.out p) (HV'.out p)
    have HSB : Hid (∀ p : Later w2, Calls Try.prog 21 #[.agg #[.int .i64 k0, .int .i64 n0, .string s0, .slice a0 len0 cap0], .agg #[.int .i64 k0, .int .i64 n0, .string s0, .slice a0 len0 cap0]] p.W (Gives (.bool true) p.W)) := fun p => by rw [← V.same_refl v]; exact same_any _ _ _ _ _ _ (Nat.le_refl _) (HV.out p) (HV.out p)
    have HSC : Hid (∀ p : Later w2, Calls Try.prog 21 #[.agg #[.int .i64 k1, .int .i64 n1, .string s1, .slice a1 len1 cap1], .agg #[.int .i64 k1, .int .i64 n1, .string s1, .slice a1 len1 cap1]] p.W (Gives (.bool true) p.W)) := fun p => by rw [← V.same_refl v']; exact same_any _ _ _ _ _ _ (Nat.le_refl _) (HV'.out p) (HV'.out p)
    generalize V.same v v' = sv at *
    go_wp2_with fail
    refine wp_region_later (by kernel_rfl) (by kernel_rfl) ?_
    repeat (quiet_step (first | with_reducible exact later_of _ (HSA.out _) | with_reducible exact later_of _ (HSR.out _) | with_reducible exact later_of _ (HSB.out _) | with_reducible exact later_of _ (HSC.out _)))
    refine wpQuiet_nil ?_
    intro _ hw'
    obtain ⟨⟨W9, hW9⟩, rfl⟩ := hw'
    have HB9 := Lib.hid (HB2.out.trans (hW9.mono HB2.out.size))
    go_wp2
    go_ret
    exact ⟨by simp, HB9.out⟩
end Go.Proofs.Ytedkoifbjmemdaa
