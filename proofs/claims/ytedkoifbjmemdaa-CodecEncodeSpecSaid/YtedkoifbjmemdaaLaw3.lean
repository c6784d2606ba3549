/- the law CodecEncodeSpec -/
import Derived.Test.YtedkoifbjmemdaaCalm
namespace Go.Proofs.Ytedkoifbjmemdaa
open Go.RowKit
attribute [local go_sem ↓] Go.wp_at_zero Go.wp_at_succ
set_option maxRecDepth 100000 in
set_option maxHeartbeats 1600000 in
theorem law3_any (v : V) (c : Value) (w : World) (hr : RepV w v c) : Calls Try.prog 3 #[c] w (Gives (.bool true) w) := by
  obtain ⟨k0, n0, s0, a0, len0, cap0, rfl⟩ := hr.form
  have HR := Lib.hid hr
  clear hr
  go_enter Try.func3, Try.ntmps3
  go_wp2_with fail
  have hbA : Below w.heap.size w (w.alloc (.cells #[.int .i64 k0, .int .i64 n0, .string s0, .slice a0 len0 cap0] 24)) := (Below.refl _ _).alloc (Nat.le_refl _) _
  refine (sane_any _).mono ?_
  rintro e w1 ⟨rfl, hb1⟩
  have x0 : w1.cell? ⟨w.heap.size, 0, none⟩ = some (.int .i64 k0) := (hb1.cell (by simp)).trans (by go_simp)
  have x1 : w1.cell? ⟨w.heap.size, 1, none⟩ = some (.int .i64 n0) := (hb1.cell (by simp)).trans (by go_simp)
  have x2 : w1.cell? ⟨w.heap.size, 2, none⟩ = some (.string s0) := (hb1.cell (by simp)).trans (by go_simp)
  have x3 : w1.cell? ⟨w.heap.size, 3, none⟩ = some (.slice a0 len0 cap0) := (hb1.cell (by simp)).trans (by go_simp)
  have hsz : w.heap.size < w1.heap.size := by have := hb1.size; simp at this; omega
  have hB1 := hbA.trans (hb1.mono hbA.size)
  have HB1 := Lib.hid hB1
  clear hb1 hbA
  go_wp2_with fail
  have hB2 := hB1.alloc hB1.size (.cells #[.int .i64 k0, .int .i64 n0, .string s0, .slice a0 len0 cap0] 24)
  have hrl := repL_one (RepV.below hB2 HR.out) (heap_alloc_new w1 _)
  refine (few_any [v] _ 1 _ hrl (by simp) (by simp)).mono ?_
  rintro e w2 ⟨rfl, hb2⟩
  have hx : Below w1.heap.size w1 w2 := ((Below.refl _ _).alloc (Nat.le_refl _) _).trans (hb2.mono (by simp))
  have z0 := below_cell hx x0
  have z1 := below_cell hx x1
  have z2 := below_cell hx x2
  have z3 := below_cell hx x3
  have HB2 := Lib.hid (HB1.out.trans (hx.mono HB1.out.size))
  clear x0 x1 x2 x3 hx hb2 hrl hB2 hB1
  obtain ⟨f, hf⟩ : ∃ f, fewB [v] = f := ⟨_, rfl⟩
  rw [hf]
  cases f
  · clear hf
    go_wp2
    go_ret
    exact ⟨rfl, HB2.out⟩
  · have hcnt : v.cnt 20 ≤ 200 := by simpa [fewB] using hf
    obtain ⟨hd, hle⟩ := few_small HR.out hcnt
    have HV : Hid (∀ W, Below w.heap.size w W → RepV W v (.agg #[.int .i64 k0, .int .i64 n0, .string s0, .slice a0 len0 cap0])) := fun W h => RepV.below h HR.out
    have HD := Lib.hid hd
    have HL := Lib.hid hle
    clear hf hcnt hd hle
    go_wp2_with fail
    refine (encode_any v _ _ HD.out HL.out (HV.out _ HB2.out)).mono ?_
    intro e w3 h3
    obtain ⟨a3, cap3, rfl, hby3, hc3, hl3, hb3⟩ := h3.bytes
    clear h3
    have y0 := below_cell hb3 z0
    have y1 := below_cell hb3 z1
    have y2 := below_cell hb3 z2
    have y3 := below_cell hb3 z3
    have HB3 := Lib.hid (HB2.out.trans (hb3.mono HB2.out.size))
    clear z0 z1 z2 z3 hb3
    go_wp2_with fail
    refine (rencodeE_any v _ _ HD.out HL.out (HV.out _ HB3.out)).mono ?_
    intro e w4 h4
    obtain ⟨a4, cap4, rfl, hby4, hc4, hl4, hb4⟩ := h4.bytes
    clear h4
    have z0 := below_cell hb4 y0
    have z1 := below_cell hb4 y1
    have z2 := below_cell hb4 y2
    have z3 := below_cell hb4 y3
    have hby3' := hby3.below hb4
    have HB4 := Lib.hid (HB3.out.trans (hb4.mono HB3.out.size))
    clear y0 y1 y2 y3 hb4 hby3
    go_wp2_with fail
    refine (size_any v _ _ HD.out HL.out (HV.out _ HB4.out)).mono ?_
    rintro e w5 ⟨rfl, hb5⟩
    have y0 := below_cell hb5 z0
    have y1 := below_cell hb5 z1
    have y2 := below_cell hb5 z2
    have y3 := below_cell hb5 z3
    have HB5 := Lib.hid (HB4.out.trans (hb5.mono HB4.out.size))
    clear z0 z1 z2 z3
    go_wp2_with fail
    refine (rsize_any v _ _ HD.out HL.out (HV.out _ HB5.out)).mono ?_
    rintro e w6 ⟨rfl, hb6⟩
    have hb46 := hb5.trans (hb6.mono hb5.size)
    have HB6 := Lib.hid (HB5.out.trans (hb6.mono HB5.out.size))
    have p0 := fun p : Later w6 => p.cell (below_cell hb6 y0)
    have p1 := fun p : Later w6 => p.cell (below_cell hb6 y1)
    have p2 := fun p : Later w6 => p.cell (below_cell hb6 y2)
    have p3 := fun p : Later w6 => p.cell (below_cell hb6 y3)
    have r3 := fun p : Later w6 => ((hby3'.below hb46).below p.by_).conv cap3
    have r4 := fun p : Later w6 => ((hby4.below hb46).below p.by_).conv cap4
    have HP : Hid (∀ p : Later w6, RepV p.W v (.agg #[.int .i64 k0, .int .i64 n0, .string s0, .slice a0 len0 cap0])) := fun p => HV.out _ (HB6.out.trans (p.by_.mono HB6.out.size))
    have HK : Hid (∀ p : Later w6, Calls Try.prog 16 #[.agg #[.int .i64 k0, .int .i64 n0, .string s0, .slice a0 len0 cap0]] p.W (GivesI v.chk p.W)) := fun p => check_any v p.W _ _ _ _ _ _ HD.out (HP.out p)
    have HK' : Hid (∀ p : Later w6, Calls Try.prog 17 #[.agg #[.int .i64 k0, .int .i64 n0, .string s0, .slice a0 len0 cap0]] p.W (GivesI v.chk p.W)) := fun p => rcheck_any v p.W _ HD.out (HP.out p)
    clear y0 y1 y2 y3 hb5 hb6 hb46 hby3' hby4 hc3 hc4 hl3 hl4 HV HP HD HL
    generalize v.chk = ck at *
    generalize v.out = o at *
    go_wp2_with fail
    refine wp_region_later (by kernel_rfl) (by kernel_rfl) ?_
    repeat (quiet_step (first
      | exact later_ofI _ (HK.out _)
      | exact later_ofI _ (HK'.out _)))
    refine wpQuiet_nil ?_
    intro _ hw'
    obtain ⟨⟨W9, hW9⟩, rfl⟩ := hw'
    have HB9 := Lib.hid (HB6.out.trans (hW9.mono HB6.out.size))
    go_wp2
    go_ret
    exact ⟨by simp, HB9.out⟩
end Go.Proofs.Ytedkoifbjmemdaa
