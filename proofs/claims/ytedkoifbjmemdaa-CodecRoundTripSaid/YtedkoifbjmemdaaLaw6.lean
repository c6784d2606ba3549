/- the law CodecRoundTrip -/
import Derived.Test.YtedkoifbjmemdaaLaw7
namespace Go.Proofs.Ytedkoifbjmemdaa
open Go.RowKit
attribute [local go_sem ↓] Go.wp_at_zero Go.wp_at_succ
theorem dec_of_enc {v : V} (h : v.chk = 0) (f : v.fits) : dec v.enc = some v := by
  have := V.dec_enc v 16 [] (chk_zero h).1 (chk_zero h).2 f
  rw [List.append_nil] at this
  unfold dec
  rw [this]
theorem dec_back {bs : List UInt8} {x : V} (hl : bs.length ≤ 1000000) (h : dec bs = some x) : bs = x.enc ∧ x.chk = 0 ∧ x.depth ≤ 16 ∧ x.enc.length ≤ 1000000 := by
  apply dec_chk hl
  unfold dec at h
  split at h
  · next v' e => cases h; exact e
  · cases h
set_option maxRecDepth 100000 in
set_option maxHeartbeats 3200000 in
theorem law6_any (v : V) (c : Value) (bs : List UInt8) (a : Option Addr) (cap : Nat) (w : World) (hr : RepV w v c) (hl : bs.length ≤ cap) (hby : Bytes w a bs) (hlt : ∀ ad, a = some ad → ad.block < w.heap.size) :
    Calls Try.prog 6 #[c, .slice a bs.length cap] w (Gives (.bool true) w) := by
  obtain ⟨k0, n0, s0, a0, len0, cap0, rfl⟩ := hr.form
  have HR := Lib.hid hr
  have HBY := Lib.hid hby
  have HLT := Lib.hid hlt
  clear hr hby hlt
  go_enter Try.func6, Try.ntmps6
  go_wp2_with fail
  have hbA : Below w.heap.size w (w.alloc (.cells #[.int .i64 k0, .int .i64 n0, .string s0, .slice a0 len0 cap0] 24)) := (Below.refl _ _).alloc (Nat.le_refl _) _
  refine (sane_any _).mono ?_
  rintro e w1 ⟨rfl, hb1⟩
  have x0 : w1.cell? ⟨w.heap.size, 0, none⟩ = some (.int .i64 k0) := (hb1.cell (by simp)).trans (by go_simp)
  have x1 : w1.cell? ⟨w.heap.size, 1, none⟩ = some (.int .i64 n0) := (hb1.cell (by simp)).trans (by go_simp)
  have x2 : w1.cell? ⟨w.heap.size, 2, none⟩ = some (.string s0) := (hb1.cell (by simp)).trans (by go_simp)
  have x3 : w1.cell? ⟨w.heap.size, 3, none⟩ = some (.slice a0 len0 cap0) := (hb1.cell (by simp)).trans (by go_simp)
  have hsz : w.heap.size < w1.heap.size := by have := hb1.size; simp at this; omega
  have hB1 := hbA.trans (hb1.mono hbA.size)
  have HB1 := Lib.hid hB1
  clear hb1 hbA
  go_wp2_with fail
  have hB2 := hB1.alloc hB1.size (.cells #[.int .i64 k0, .int .i64 n0, .string s0, .slice a0 len0 cap0] 24)
  have hrl := repL_one (RepV.below hB2 HR.out) (heap_alloc_new w1 _)
  refine (few_any [v] _ 1 _ hrl (by simp) (by simp)).mono ?_
  rintro e w2 ⟨rfl, hb2⟩
  have hx : Below w1.heap.size w1 w2 := ((Below.refl _ _).alloc (Nat.le_refl _) _).trans (hb2.mono (by simp))
  have z0 := below_cell hx x0
  have z1 := below_cell hx x1
  have z2 := below_cell hx x2
  have z3 := below_cell hx x3
  have HB2 := Lib.hid (HB1.out.trans (hx.mono HB1.out.size))
  have hsz2 := Nat.lt_of_lt_of_le hsz hx.size
  clear x0 x1 x2 x3 hx hb2 hrl hB2 hB1
  obtain ⟨f, hf⟩ : ∃ f, fewB [v] = f := ⟨_, rfl⟩
  rw [hf]
  cases f
  · clear hf
    go_wp2
    go_ret
    exact ⟨rfl, HB2.out⟩
  · have hcnt : v.cnt 20 ≤ 200 := by simpa [fewB] using hf
    have HS := Lib.hid (few_small HR.out hcnt)
    have HV : Hid (∀ W, Below w.heap.size w W → RepV W v (.agg #[.int .i64 k0, .int .i64 n0, .string s0, .slice a0 len0 cap0])) := fun W h => RepV.below h HR.out
    have HF := Lib.hid HR.out.fits
    clear hf hcnt
    by_cases h2 : bs.length ≤ 2000
    · have HD : Hid (∀ W, Below w.heap.size w W → Calls Try.prog 18 #[.slice a bs.length cap] W (DecPost bs W)) := fun W h => decode_any bs a cap W hl (by omega) (HBY.out.below h) (fun ad e => Nat.lt_of_lt_of_le (HLT.out ad e) h.size)
      go_wp2_with fail
      refine (encode_any v _ _ HS.out.1 HS.out.2 (HV.out _ HB2.out)).mono ?_
      intro e w3 h3
      obtain ⟨a3, cap3, rfl, hby3, hc3, hl3, hb3⟩ := h3.bytes
      clear h3
      have y0 := below_cell hb3 z0
      have y1 := below_cell hb3 z1
      have y2 := below_cell hb3 z2
      have y3 := below_cell hb3 z3
      have HB3 := Lib.hid (HB2.out.trans (hb3.mono HB2.out.size))
      have hsz3 := Nat.lt_of_lt_of_le hsz2 hb3.size
      clear z0 z1 z2 z3 hb3
      go_wp2_with fail
      refine (check_any v _ _ _ _ _ _ _ HS.out.1 (HV.out _ HB3.out)).mono ?_
      rintro e w4 ⟨rfl, hb4⟩
      have z0 := below_cell hb4 y0
      have z1 := below_cell hb4 y1
      have z2 := below_cell hb4 y2
      have z3 := below_cell hb4 y3
      have hby4 := hby3.below hb4
      have hl4 : ∀ ad, a3 = some ad → ad.block < w4.heap.size := fun ad e => Nat.lt_of_lt_of_le (hl3 ad e) hb4.size
      have HB4 := Lib.hid (HB3.out.trans (hb4.mono HB3.out.size))
      have hsz4 := Nat.lt_of_lt_of_le hsz3 hb4.size
      clear y0 y1 y2 y3 hb4 hby3 hl3 hsz
      rcases Classical.em (v.chk = 0) with hz | hz
      case' inl =>
        rw [out_zero hz] at hby4 hc3
        rw [out_zero hz, hz]
        have HDE := Lib.hid (dec_of_enc hz HF.out)
        have HDC := Lib.hid (decode_any v.enc a3 cap3 w4 hc3 (by have := HS.out; omega) hby4 hl4)
        clear hz hby4 hc3 hl4
        go_wp2_with fail
        refine HDC.out.mono ?_
        rintro e w5 ⟨c5, he, hv5, hb5⟩
        rw [HDE.out] at he hv5
        subst he
        obtain ⟨k5, n5, s5, a5, len5, cap5, rfl⟩ := hv5.form
        have hv5' : RepV w5 v _ := hv5
        have y0 := below_cell hb5 z0
        have y1 := below_cell hb5 z1
        have y2 := below_cell hb5 z2
        have y3 := below_cell hb5 z3
        have hsz5 := Nat.lt_of_lt_of_le hsz4 hb5.size
        have HB5 := Lib.hid (HB4.out.trans (hb5.mono HB4.out.size))
        have HB5a := Lib.hid (HB5.out.alloc HB5.out.size (.cells #[.int .i64 k5, .int .i64 n5, .string s5, .slice a5 len5 cap5] 24))
        have HV5 := Lib.hid (RepV.below ((Below.refl w5.heap.size w5).alloc (Nat.le_refl _) (.cells #[.int .i64 k5, .int .i64 n5, .string s5, .slice a5 len5 cap5] 24)) hv5')
        have hx0 : (w5.alloc (.cells #[.int .i64 k5, .int .i64 n5, .string s5, .slice a5 len5 cap5] 24)).cell? ⟨w.heap.size, 0, none⟩ = some (.int .i64 k0) := below_cell ((Below.refl w5.heap.size w5).alloc (Nat.le_refl _) _) y0
        have hx1 : (w5.alloc (.cells #[.int .i64 k5, .int .i64 n5, .string s5, .slice a5 len5 cap5] 24)).cell? ⟨w.heap.size, 1, none⟩ = some (.int .i64 n0) := below_cell ((Below.refl w5.heap.size w5).alloc (Nat.le_refl _) _) y1
        have hx2 : (w5.alloc (.cells #[.int .i64 k5, .int .i64 n5, .string s5, .slice a5 len5 cap5] 24)).cell? ⟨w.heap.size, 2, none⟩ = some (.string s0) := below_cell ((Below.refl w5.heap.size w5).alloc (Nat.le_refl _) _) y2
        have hx3 : (w5.alloc (.cells #[.int .i64 k5, .int .i64 n5, .string s5, .slice a5 len5 cap5] 24)).cell? ⟨w.heap.size, 3, none⟩ = some (.slice a0 len0 cap0) := below_cell ((Below.refl w5.heap.size w5).alloc (Nat.le_refl _) _) y3
        have hq := (Box4.new w5 (.int .i64 k5) (.int .i64 n5) (.string s5) (.slice a5 len5 cap5)).cells
        clear z0 z1 z2 z3 hb5 hv5 hv5'
        go_wp2_with fail
        generalize w5.alloc (.cells #[.int .i64 k5, .int .i64 n5, .string s5, .slice a5 len5 cap5] 24) = W6 at *
        refine (same_any _ v v W6 _ _ (Nat.le_refl _) (HV.out _ HB5a.out) HV5.out).mono ?_
        rintro e w7 ⟨rfl, hb7⟩
        rw [V.same_refl]
        have t0 := below_cell hb7 hx0
        have t1 := below_cell hb7 hx1
        have t2 := below_cell hb7 hx2
        have t3 := below_cell hb7 hx3
        obtain ⟨q0, q1, q2, q3⟩ := hq
        have r0 := below_cell hb7 q0
        have r1 := below_cell hb7 q1
        have r2 := below_cell hb7 q2
        have r3 := below_cell hb7 q3
        have HB7 := Lib.hid (HB5a.out.trans (hb7.mono HB5a.out.size))
        have HV7 := Lib.hid (RepV.below hb7 HV5.out)
        clear hx0 hx1 hx2 hx3 q0 q1 q2 q3 hb7 y0 y1 y2 y3
        go_wp2_with fail
        refine (rsame_any _ v v w7 _ _ (Nat.le_refl _) (HV.out _ HB7.out) HV7.out).mono ?_
        rintro e w9 ⟨rfl, hb9⟩
        rw [V.same_refl]
        have HB9 := Lib.hid (HB7.out.trans (hb9.mono HB7.out.size))
        clear t0 t1 t2 t3 r0 r1 r2 r3 hb9
        go_wp2_with fail
      case' inr =>
        have HB9 := HB4
        clear hby4 hc3 hl4 z0 z1 z2 z3
        generalize v.chk = ck at *
        go_wp2_with fail
      all_goals
        refine (HD.out _ HB9.out).mono ?_
        rintro e w10 ⟨c10, rfl, hv10, hb10⟩
        have HB10 := Lib.hid (HB9.out.trans (hb10.mono HB9.out.size))
        obtain ⟨k9, n9, s9, a9, len9, cap9, rfl⟩ := hv10.form
        have HB11 := Lib.hid (HB10.out.alloc HB10.out.size (.cells #[.int .i64 k9, .int .i64 n9, .string s9, .slice a9 len9 cap9] 24))
        have hv11 := RepV.below ((Below.refl w10.heap.size w10).alloc (Nat.le_refl _) (.cells #[.int .i64 k9, .int .i64 n9, .string s9, .slice a9 len9 cap9] 24)) hv10
        have hX := Box4.new w10 (.int .i64 k9) (.int .i64 n9) (.string s9) (.slice a9 len9 cap9)
        clear hb10 hv10
        obtain ⟨o, ho⟩ : ∃ o, dec bs = o := ⟨_, rfl⟩
        rw [ho] at hv11
        rw [ho]
        have HO := Lib.hid ho
        clear ho
        cases o with
        | none =>
          have HV11 := Lib.hid hv11
          clear hv11 hX
          simp only [Option.isSome_none, Bool.false_eq_true, if_false]
          go_wp2_with fail
          refine (same_any _ V.zero V.zero _ _ _ (Nat.le_refl _) HV11.out (repV_zero _)).mono ?_
          rintro e w12 ⟨rfl, hb12⟩
          rw [V.same_refl]
          have HB12 := Lib.hid (HB11.out.trans (hb12.mono HB11.out.size))
          clear hb12
          go_wp2
          go_ret
          exact ⟨by simp, HB12.out⟩
        | some x =>
          obtain ⟨e1, e2, e3, e4⟩ := dec_back (by omega) HO.out
          have hv11' : RepV _ x _ := hv11
          have HEX := Lib.hid (encode_any x _ _ (by omega) e4 hv11')
          have HX := Lib.hid hX
          have HV11 := Lib.hid hv11'
          have HE1 := Lib.hid e1
          have HE2 := Lib.hid e2
          have HE3 := Lib.hid e3
          clear hv11 hv11' hX e1 e2 e3 e4
          simp only [Option.isSome_some, if_true]
          go_wp2_with fail
          refine HEX.out.mono ?_
          intro e w12 h12
          obtain ⟨a12, cap12, rfl, hby12, hc12, hl12, hb12⟩ := h12.bytes
          rw [out_zero HE2.out, ← HE1.out] at hby12
          rw [out_zero HE2.out, HE2.out, ← HE1.out]
          have HB12 := Lib.hid (HB11.out.trans (hb12.mono HB11.out.size))
          have hcv := hby12.conv cap12
          have hcv' := (HBY.out.below HB12.out).conv cap
          have HK := Lib.hid (check_any x w12 _ _ _ _ _ _ (by have := HE3.out; omega) (RepV.below hb12 HV11.out))
          obtain ⟨q0, q1, q2, q3⟩ := HX.out.cells
          have r0 := below_cell hb12 q0
          have r1 := below_cell hb12 q1
          have r2 := below_cell hb12 q2
          have r3 := below_cell hb12 q3
          rw [HE2.out] at HK
          clear q0 q1 q2 q3 hb12 h12 hby12 hc12 hl12 HEX HX HV11 HE1 HE2 HE3 HO
          go_wp2_with fail
          refine HK.out.mono ?_
          rintro e w13 ⟨rfl, hb13⟩
          have HB13 := Lib.hid (HB12.out.trans (hb13.mono HB12.out.size))
          clear hb13
          go_wp2
          go_ret
          exact ⟨by simp, HB13.out⟩
    · go_wp2
      go_ret
      exact ⟨rfl, HB2.out⟩
end Go.Proofs.Ytedkoifbjmemdaa
