/- the law CodecDifferent -/
import Derived.Test.YtedkoifbjmemdaaCalm
namespace Go.Proofs.Ytedkoifbjmemdaa
open Go.RowKit
attribute [local go_sem ↓] Go.wp_at_zero Go.wp_at_succ
mutual
theorem RepV.fits {w : World} : ∀ {v : V} {c : Value}, RepV w v c → v.fits
  | .mk k n s l, c, h => by
    simp only [RepV] at h
    simp only [V.fits]
    obtain ⟨a, cap, _, h1, h2, h3, h4, h5, h6⟩ := h
    exact ⟨h1, h2, by omega, by omega, RepL.fits h6⟩
theorem RepL.fits {w : World} : ∀ {l : List V} {a : Option Addr}, RepL w l a → V.fitss l
  | [], _, _ => by simp only [V.fitss]
  | v :: l, a, h => by
    simp only [RepL] at h
    simp only [V.fitss]
    obtain ⟨b, off, c0, c1, c2, c3, _, _, _, _, _, hv, hl⟩ := h
    exact ⟨RepV.fits hv, RepL.fits hl⟩
end
theorem chk_zero {v : V} (h : v.chk = 0) : v.ok = true ∧ v.depth ≤ 16 := by
  rw [V.chk_of] at h
  by_cases h1 : v.ok = true
  · rw [if_pos h1] at h
    refine ⟨h1, ?_⟩
    by_cases h2 : 16 < v.depth
    · rw [if_pos h2] at h
      omega
    · omega
  · rw [if_neg h1] at h
    omega
theorem out_zero {v : V} (h : v.chk = 0) : v.out = v.enc := by unfold V.out; rw [if_pos h]
/-- one encoding is the beginning of another's: the values are the same -/
theorem enc_start {v v' : V} (h : v.chk = 0) (h' : v'.chk = 0) (f : v.fits) (f' : v'.fits) {r : List UInt8} (e : v'.enc = v.enc ++ r) : v = v' := by
  have a1 := V.dec_enc v 16 r (chk_zero h).1 (chk_zero h).2 f
  have a2 := V.dec_enc v' 16 [] (chk_zero h').1 (chk_zero h').2 f'
  rw [List.append_nil, e, a1] at a2
  injection a2 with a2
  injection a2 with a2 _
theorem enc_apart {v v' : V} (h : v.chk = 0) (h' : v'.chk = 0) (f : v.fits) (f' : v'.fits) {n : Nat} (hn : n = min v.enc.length v'.enc.length) (e : v.enc.take n = v'.enc.take n) : v = v' := by
  rcases Nat.le_total v.enc.length v'.enc.length with hl | hl
  · have : n = v.enc.length := by omega
    rw [this, List.take_length] at e
    exact enc_start h h' f f' (r := v'.enc.drop v.enc.length) (by rw [e, List.length_take, Nat.min_eq_left hl, List.take_append_drop])
  · have : n = v'.enc.length := by omega
    rw [this, List.take_length] at e
    exact (enc_start h' h f' f (r := v.enc.drop v'.enc.length) (by rw [← e, List.length_take, Nat.min_eq_left hl, List.take_append_drop])).symm
theorem Bytes.some_of {w : World} {a : Option Addr} {bs : List UInt8} (h : Bytes w a bs) (hp : 1 ≤ bs.length) : ∃ b off, a = some ⟨b, off, none⟩ := by
  rcases h with rfl | ⟨b, off, rfl, _⟩
  · simp at hp
  · exact ⟨b, off, rfl⟩
theorem chk_cases (v : V) : v.chk = 0 ∨ v.chk = 1 ∨ v.chk = 2 := by
  rw [V.chk_of]
  split
  · split
    · exact .inr (.inr rfl)
    · exact .inl rfl
  · exact .inr (.inl rfl)
set_option maxRecDepth 100000 in
set_option maxHeartbeats 1600000 in
theorem law7_any (v v' : V) (c c' : Value) (w : World) (hr : RepV w v c) (hr' : RepV w v' c') : Calls Try.prog 7 #[c, c'] w (Gives (.bool true) w) := by
  obtain ⟨k0, n0, s0, a0, len0, cap0, rfl⟩ := hr.form
  obtain ⟨k1, n1, s1, a1, len1, cap1, rfl⟩ := hr'.form
  have HR := Lib.hid hr
  have HR' := Lib.hid hr'
  clear hr hr'
  go_enter Try.func7, Try.ntmps7
  go_wp2_with fail
  have hbA : Below w.heap.size w ((w.alloc (.cells #[.int .i64 k0, .int .i64 n0, .string s0, .slice a0 len0 cap0] 24)).alloc (.cells #[.int .i64 k1, .int .i64 n1, .string s1, .slice a1 len1 cap1] 24)) := ((Below.refl _ _).alloc (Nat.le_refl _) _).alloc (by simp) _
  refine (sane_any _).mono ?_
  rintro e w1 ⟨rfl, hb1⟩
  have x0 : w1.cell? ⟨w.heap.size, 0, none⟩ = some (.int .i64 k0) := (hb1.cell (by simp; omega)).trans (by go_simp)
  have x1 : w1.cell? ⟨w.heap.size, 1, none⟩ = some (.int .i64 n0) := (hb1.cell (by simp; omega)).trans (by go_simp)
  have x2 : w1.cell? ⟨w.heap.size, 2, none⟩ = some (.string s0) := (hb1.cell (by simp; omega)).trans (by go_simp)
  have x3 : w1.cell? ⟨w.heap.size, 3, none⟩ = some (.slice a0 len0 cap0) := (hb1.cell (by simp; omega)).trans (by go_simp)
  have y0 : w1.cell? ⟨w.heap.size + 1, 0, none⟩ = some (.int .i64 k1) := (hb1.cell (by simp)).trans (by go_simp)
  have y1 : w1.cell? ⟨w.heap.size + 1, 1, none⟩ = some (.int .i64 n1) := (hb1.cell (by simp)).trans (by go_simp)
  have y2 : w1.cell? ⟨w.heap.size + 1, 2, none⟩ = some (.string s1) := (hb1.cell (by simp)).trans (by go_simp)
  have y3 : w1.cell? ⟨w.heap.size + 1, 3, none⟩ = some (.slice a1 len1 cap1) := (hb1.cell (by simp)).trans (by go_simp)
  have hsz : w.heap.size + 1 < w1.heap.size := by have := hb1.size; simp at this; omega
  have hB1 := hbA.trans (hb1.mono hbA.size)
  have HB1 := Lib.hid hB1
  clear hb1 hbA
  go_wp2_with fail
  have hB2 := hB1.alloc hB1.size (.cells #[.int .i64 k0, .int .i64 n0, .string s0, .slice a0 len0 cap0, .int .i64 k1, .int .i64 n1, .string s1, .slice a1 len1 cap1] 24)
  have hrl := repL_two (RepV.below hB2 HR.out) (RepV.below hB2 HR'.out) (heap_alloc_new w1 _)
  refine (few_any [v, v'] _ 2 _ hrl (by simp) (by simp)).mono ?_
  rintro e w2 ⟨rfl, hb2⟩
  have hx : Below w1.heap.size w1 w2 := ((Below.refl _ _).alloc (Nat.le_refl _) _).trans (hb2.mono (by simp))
  have z0 := below_cell hx x0
  have z1 := below_cell hx x1
  have z2 := below_cell hx x2
  have z3 := below_cell hx x3
  have u0 := below_cell hx y0
  have u1 := below_cell hx y1
  have u2 := below_cell hx y2
  have u3 := below_cell hx y3
  have HB2 := Lib.hid (HB1.out.trans (hx.mono HB1.out.size))
  clear x0 x1 x2 x3 y0 y1 y2 y3 hx hb2 hrl hB2 hB1
  obtain ⟨f, hf⟩ : ∃ f, fewB [v, v'] = f := ⟨_, rfl⟩
  rw [hf]
  cases f
  · clear hf
    go_wp2
    go_ret
    exact ⟨rfl, HB2.out⟩
  · have hcnt : v.cnt 20 ≤ 200 ∧ v'.cnt 20 ≤ 200 := by simpa [fewB] using hf
    have HS := Lib.hid (few_small HR.out hcnt.1)
    have HS' := Lib.hid (few_small HR'.out hcnt.2)
    have HV : Hid (∀ W, Below w.heap.size w W → RepV W v (.agg #[.int .i64 k0, .int .i64 n0, .string s0, .slice a0 len0 cap0])) := fun W h => RepV.below h HR.out
    have HV' : Hid (∀ W, Below w.heap.size w W → RepV W v' (.agg #[.int .i64 k1, .int .i64 n1, .string s1, .slice a1 len1 cap1])) := fun W h => RepV.below h HR'.out
    clear hf hcnt
    go_wp2_with fail
    refine (encode_any v _ _ HS.out.1 HS.out.2 (HV.out _ HB2.out)).mono ?_
    intro e w3 h3
    obtain ⟨a3, cap3, rfl, hby3, hc3, hl3, hb3⟩ := h3.bytes
    clear h3
    have x0 := below_cell hb3 z0
    have x1 := below_cell hb3 z1
    have x2 := below_cell hb3 z2
    have x3 := below_cell hb3 z3
    have y0 := below_cell hb3 u0
    have y1 := below_cell hb3 u1
    have y2 := below_cell hb3 u2
    have y3 := below_cell hb3 u3
    have HB3 := Lib.hid (HB2.out.trans (hb3.mono HB2.out.size))
    clear z0 z1 z2 z3 u0 u1 u2 u3 hb3
    go_wp2_with fail
    refine (encode_any v' _ _ HS'.out.1 HS'.out.2 (HV'.out _ HB3.out)).mono ?_
    intro e w4 h4
    obtain ⟨a4, cap4, rfl, hby4, hc4, hl4, hb4⟩ := h4.bytes
    clear h4
    have z0 := below_cell hb4 x0
    have z1 := below_cell hb4 x1
    have z2 := below_cell hb4 x2
    have z3 := below_cell hb4 x3
    have u0 := below_cell hb4 y0
    have u1 := below_cell hb4 y1
    have u2 := below_cell hb4 y2
    have u3 := below_cell hb4 y3
    have hby3' := hby3.below hb4
    have HB4 := Lib.hid (HB3.out.trans (hb4.mono HB3.out.size))
    clear x0 x1 x2 x3 y0 y1 y2 y3 hb4 hby3
    by_cases hz : v.chk = 0 ∧ v'.chk = 0
    · obtain ⟨e0, e0'⟩ := hz
      rw [e0, e0', out_zero e0, out_zero e0']
      rw [out_zero e0] at hby3' hc3
      rw [out_zero e0'] at hby4 hc4
      have HQ : Hid (V.same v v' = false → v.enc.take (min v.enc.length v'.enc.length) ≠ v'.enc.take (min v.enc.length v'.enc.length)) := fun h e => by
        have := enc_apart e0 e0' HR.out.fits HR'.out.fits rfl e
        rw [this, V.same_refl] at h
        cases h
      have HE : Hid (V.same v v' = true → v.enc = v'.enc) := fun h => by rw [(V.same_eq v v').1 h]
      have HSM := Lib.hid (same_any _ v v' w4 _ _ (Nat.le_refl _) (HV.out _ HB4.out) (HV'.out _ HB4.out))
      obtain ⟨g, hg⟩ : ∃ g, V.same v v' = g := ⟨_, rfl⟩
      rw [hg] at HQ HE HSM
      have hp := v.enc_pos
      have hp' := v'.enc_pos
      clear e0 e0' hg HV HV' HS HS' HR HR'
      generalize v.enc = bs at *
      generalize v'.enc = bs' at *
      go_wp2_with fail
      refine HSM.out.mono ?_
      rintro e w5 ⟨rfl, hb5⟩
      have HB5 := Lib.hid (HB4.out.trans (hb5.mono HB4.out.size))
      clear z0 z1 z2 z3 u0 u1 u2 u3
      have hby5 := hby3'.below hb5
      have hby6 := hby4.below hb5
      clear hby3' hby4 hb5
      cases g
      · have hne := HQ.out rfl
        obtain ⟨b3, o3, rfl⟩ := hby5.some_of hp
        obtain ⟨b4, o4, rfl⟩ := hby6.some_of hp'
        rcases Nat.lt_or_ge bs'.length bs.length with h | h
        rotate_left
        · rw [Nat.min_eq_left h] at hne
          have hI : (bs.length : Int) ≤ (bs'.length : Int) := by omega
          have l1 : (bs.take bs.length).length = bs.length := by rw [List.length_take]; omega
          have l2 : (bs'.take bs.length).length = bs.length := by rw [List.length_take]; omega
          have r3 := fun p : Later w5 => ((hby5.take bs.length).below p.by_).conv cap3
          have r4 := fun p : Later w5 => ((hby6.take bs.length).below p.by_).conv cap4
          rw [l1] at r3
          rw [l2] at r4
          have i2 : (bs.length : Int) ≤ (cap3 : Int) := by omega
          have i3 : (bs.length : Int) ≤ (cap4 : Int) := by omega
          generalize bs.take bs.length = t1 at *
          generalize bs'.take bs.length = t2 at *
          generalize bs.length = N at *
          generalize bs'.length = M at *
          have i1 : (0 : Int) ≤ (N : Int) := by omega
          have HNE := Lib.hid hne
          clear hby5 hby6 l1 l2 hl3 hl4 hne HQ HE HSM
          go_wp2_with fail
          refine wp_region_later (by kernel_rfl) (by kernel_rfl) ?_
          repeat (quiet_step (fail))
          refine wpQuiet_nil ?_
          intro _ hw'
          obtain ⟨⟨W9, hW9⟩, rfl⟩ := hw'
          have HB9 := Lib.hid (HB5.out.trans (hW9.mono HB5.out.size))
          go_wp2
          go_ret
          exact ⟨by simp [HNE.out], HB9.out⟩
        · rw [Nat.min_eq_right (Nat.le_of_lt h)] at hne
          have hI : (bs'.length : Int) < (bs.length : Int) := by omega
          have l1 : (bs.take bs'.length).length = bs'.length := by rw [List.length_take]; omega
          have l2 : (bs'.take bs'.length).length = bs'.length := by rw [List.length_take]; omega
          have r3 := fun p : Later w5 => ((hby5.take bs'.length).below p.by_).conv cap3
          have r4 := fun p : Later w5 => ((hby6.take bs'.length).below p.by_).conv cap4
          rw [l1] at r3
          rw [l2] at r4
          have i2 : (bs'.length : Int) ≤ (cap3 : Int) := by omega
          have i3 : (bs'.length : Int) ≤ (cap4 : Int) := by omega
          generalize bs.take bs'.length = t1 at *
          generalize bs'.take bs'.length = t2 at *
          generalize bs.length = N at *
          generalize bs'.length = M at *
          have i1 : (0 : Int) ≤ (M : Int) := by omega
          have HNE := Lib.hid hne
          clear hby5 hby6 l1 l2 hl3 hl4 hne HQ HE HSM
          go_wp2_with fail
          refine wp_region_later (by kernel_rfl) (by kernel_rfl) ?_
          repeat (quiet_step (fail))
          refine wpQuiet_nil ?_
          intro _ hw'
          obtain ⟨⟨W9, hW9⟩, rfl⟩ := hw'
          have HB9 := Lib.hid (HB5.out.trans (hW9.mono HB5.out.size))
          go_wp2
          go_ret
          exact ⟨by simp [HNE.out], HB9.out⟩
      · have heq := HE.out rfl
        subst heq
        have hcv := hby5.conv cap3
        have hcv' := hby6.conv cap4
        go_wp2
        go_ret
        exact ⟨by simp, HB5.out⟩
    · have key : (v.chk ≠ 0) ∨ (v.chk = 0 ∧ v'.chk ≠ 0) := by
        by_cases h1 : v.chk = 0
        · exact .inr ⟨h1, fun h2 => hz ⟨h1, h2⟩⟩
        · exact .inl h1
      generalize v.out = bs at *
      generalize v'.out = bs' at *
      generalize v.chk = ck at *
      generalize v'.chk = ck' at *
      clear hz
      rcases key with h1 | ⟨h1, h2⟩
      · go_wp2
        go_ret
        exact ⟨rfl, HB4.out⟩
      · subst h1
        go_wp2
        go_ret
        exact ⟨rfl, HB4.out⟩
end Go.Proofs.Ytedkoifbjmemdaa
