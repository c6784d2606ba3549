/- frankingref01: Decode; Int, Text, List -/
import Derived.Test.YtedkoifbjmemdaaRVal3
namespace Go.Proofs.Ytedkoifbjmemdaa
open Go.RowKit
attribute [local go_sem ↓] Go.wp_at_zero Go.wp_at_succ
set_option maxHeartbeats 400000 in
theorem int_any (n : Int) (w : World) : Calls Try.prog 23 #[.int .i64 n] w (Gives (.agg #[.int .i64 1, .int .i64 n, .string ⟨#[]⟩, .slice none 0 0]) w) := by
  unfold Gives
  go_enter Try.func23, Try.ntmps23
  go_wp2
  exact bodyPost_ret (v := .agg #[.int .i64 1, .int .i64 n, .string ⟨#[]⟩, .slice none 0 0]) (by simp [results, Try.results23, go_sem]) rfl ⟨rfl, (Below.refl _ _).alloc (Nat.le_refl _) _⟩
set_option maxHeartbeats 400000 in
theorem text_any (s : ByteArray) (w : World) : Calls Try.prog 24 #[.string s] w (Gives (.agg #[.int .i64 2, .int .i64 0, .string s, .slice none 0 0]) w) := by
  unfold Gives
  go_enter Try.func24, Try.ntmps24
  go_wp2
  exact bodyPost_ret (v := .agg #[.int .i64 2, .int .i64 0, .string s, .slice none 0 0]) (by simp [results, Try.results24, go_sem]) rfl ⟨rfl, (Below.refl _ _).alloc (Nat.le_refl _) _⟩
set_option maxHeartbeats 400000 in
theorem list_any (a : Option Addr) (len cap : Nat) (w : World) : Calls Try.prog 22 #[.slice a len cap] w (Gives (.agg #[.int .i64 3, .int .i64 0, .string ⟨#[]⟩, .slice a len cap]) w) := by
  unfold Gives
  go_enter Try.func22, Try.ntmps22
  go_wp2
  exact bodyPost_ret (v := .agg #[.int .i64 3, .int .i64 0, .string ⟨#[]⟩, .slice a len cap]) (by simp [results, Try.results22, go_sem]) rfl ⟨rfl, (Below.refl _ _).alloc (Nat.le_refl _) _⟩

theorem dec_chk {bs : List UInt8} {v : V} (hl : bs.length ≤ 1000000) (h : decV 16 bs = some (v, [])) : bs = v.enc ∧ v.chk = 0 ∧ v.depth ≤ 16 ∧ v.enc.length ≤ 1000000 := by
  obtain ⟨h1, h2, h3, h4⟩ := V.enc_dec 16 bs v [] (by omega) h
  rw [List.append_nil] at h1
  refine ⟨h1, ?_, h3, by rw [← h1]; exact hl⟩
  rw [V.chk_of, if_pos h2, if_neg (by omega)]

/-- ahead of reading -/
structure RDec0 (w : World) (bs : List UInt8) (a : Option Addr) (cap : Nat) (W : World) : Prop where
  rr : RR W (w.heap.size + 1) bs 0 false
  box : Box4 W w.heap.size (.int .i64 0) (.int .i64 0) (.string ⟨#[]⟩) (.slice none 0 0)
  by_ : Below w.heap.size w W
theorem rdec0_of {w : World} {bs : List UInt8} {a : Option Addr} {cap : Nat} (hl : bs.length ≤ cap) (hl2 : bs.length ≤ 1000000) (hby : Bytes w a bs) (hlt : ∀ ad, a = some ad → ad.block < w.heap.size) :
    RDec0 w bs a cap ((w.alloc (.cells #[.int .i64 0, .int .i64 0, .string ⟨#[]⟩, .slice none 0 0] 24)).alloc (.cells #[.slice a bs.length cap, .int .i64 0, .bool false] 62)) := by
  have hb : Below w.heap.size w ((w.alloc (.cells #[.int .i64 0, .int .i64 0, .string ⟨#[]⟩, .slice none 0 0] 24)).alloc (.cells #[.slice a bs.length cap, .int .i64 0, .bool false] 62)) :=
    ((Below.refl _ _).alloc (Nat.le_refl _) _).alloc (by simp) _
  refine ⟨⟨a, cap, ?_, hl, hl2, hby.below hb, fun ad h => by have := hlt ad h; omega, by omega⟩, ?_, hb⟩
  · have := heap_alloc_new (w.alloc (.cells #[.int .i64 0, .int .i64 0, .string ⟨#[]⟩, .slice none 0 0] 24)) (.cells #[.slice a bs.length cap, .int .i64 0, .bool false] 62)
    rw [size_a1] at this
    exact this
  · unfold Box4
    rw [Below.heap_alloc _ _ _ (by rw [size_a1]; omega)]
    exact heap_alloc_new w _
theorem dec_none {bs : List UInt8} {o : Option (V × List UInt8)} (h : decV 16 bs = o) (hn : ∀ v, o ≠ some (v, [])) : dec bs = none := by
  unfold dec
  rw [h]
  cases o with
  | none => rfl
  | some p =>
    obtain ⟨v, r⟩ := p
    cases r with
    | nil => exact absurd rfl (hn v)
    | cons c r => rfl
theorem decPost_bad {bs : List UInt8} {w W : World} (hd : dec bs = none) (hb : Below w.heap.size w W) : DecPost bs w (.returned (.tuple #[.agg #[.int .i64 0, .int .i64 0, .string ⟨#[]⟩, .slice none 0 0], .int .i64 10])) W :=
  ⟨_, by rw [hd]; rfl, by rw [hd]; exact repV_zero _, hb⟩
theorem below_sets {w W : World} (h : Below w.heap.size w W) (d0 d1 d2 d3 : Value) : Below w.heap.size w ((((W.setCell ⟨w.heap.size, 0, none⟩ d0).setCell ⟨w.heap.size, 1, none⟩ d1).setCell ⟨w.heap.size, 2, none⟩ d2).setCell ⟨w.heap.size, 3, none⟩ d3) :=
  (((h.setCell (p := ⟨w.heap.size, 0, none⟩) (Nat.le_refl _) _).setCell (p := ⟨w.heap.size, 1, none⟩) (Nat.le_refl _) _).setCell (p := ⟨w.heap.size, 2, none⟩) (Nat.le_refl _) _).setCell (p := ⟨w.heap.size, 3, none⟩) (Nat.le_refl _) _
theorem below_drewN {B : Nat} {a w : World} (h : Below B a w) (n : Nat) : Below B a (w.drewN n) := ⟨h.os, h.tape, h.output, h.size, h.block⟩

/-- a row of bytes of the call's own, as bytes -/
theorem own_bytes {w : World} {base : Nat} {v : Value} {bs : List UInt8} (h : w.ownsRow base 5 1 v bs.length (bs.map byteV)) : ∃ a cap, v = .slice a bs.length cap ∧ Bytes w a bs ∧ bs.length ≤ cap ∧ (∀ ad, a = some ad → ad.block < w.heap.size) := by
  have hlt := h.lt
  have hc := fun g hg => h.cells (g := g) hg
  rcases h.2 with ⟨rfl, h0⟩ | ⟨g, cap, cur, rfl, h1, h2, h3, _⟩
  · have : bs = [] := List.eq_nil_of_length_eq_zero h0
    subst this
    exact ⟨none, 0, rfl, .inl rfl, by simp, fun ad h => by cases h⟩
  · refine ⟨some ⟨g, 0, none⟩, cap, rfl, .inr ⟨g, 0, rfl, fun i hi => ?_⟩, h3, fun ad h => by cases h; exact (hlt g rfl).2⟩
    have := hc g rfl i (byteV bs[i]) (by simp [hi])
    rw [Nat.zero_add]
    by_cases hj : i = 0
    · subst hj; simpa [Addr.add] using this
    · simpa [Addr.add, hj] using this

theorem box_on {w4 w5 w6 : World} {X : Nat} {c0 c1 c2 c3 : Value} (h : Box4 w4 X c0 c1 c2 c3) (hX : X + 1 < w4.heap.size) (o : Obj) (hb5 : Below (w4.alloc o).drew.heap.size (w4.alloc o).drew w5) (hb6 : Below w5.heap.size w5 w6) : Box4 w6 X c0 c1 c2 c3 := by
  have hs : X < (w4.alloc o).drew.heap.size := by simp; omega
  have h5 := hb5.size
  unfold Box4
  rw [hb6.block _ (by omega), hb5.block _ hs]
  exact (Below.heap_alloc w4 o X (by omega)).trans h
theorem rep_on {w4 w5 w6 : World} {X : Nat} {v : V} {c : Value} (h : RepF (fun b => X < b ∧ b < w4.heap.size) w4 v c) (o : Obj) (hb5 : Below (w4.alloc o).drew.heap.size (w4.alloc o).drew w5) (hb6 : Below w5.heap.size w5 w6) (d0 d1 d2 d3 : Value) :
    RepV ((((w6.setCell ⟨X, 0, none⟩ d0).setCell ⟨X, 1, none⟩ d1).setCell ⟨X, 2, none⟩ d2).setCell ⟨X, 3, none⟩ d3) v c := by
  refine RepF.rep (F := fun _ => True) (h.keep (fun _ _ => trivial) ?_)
  rintro b ⟨h1, h2⟩
  have hs : b < (w4.alloc o).drew.heap.size := by simp; omega
  have h5 := hb5.size
  repeat (rw [setCell_other _ _ _ _ _ (by omega)])
  rw [hb6.block _ (by omega), hb5.block _ hs]
  exact Below.heap_alloc w4 o b h2
theorem rdec_good {bs : List UInt8} {v : V} {w W : World} {c : Value} (hb : Below w.heap.size w W)
    (hr : RepV W v c) (hd : dec bs = some v) : DecPost bs w (.returned (.tuple #[c, .int .i64 0])) W :=
  ⟨c, by rw [hd]; rfl, by rw [hd]; exact hr, hb⟩
set_option maxRecDepth 100000 in
set_option maxHeartbeats 3200000 in
theorem rdecode_any (bs : List UInt8) (a : Option Addr) (cap : Nat) (w : World) (hl : bs.length ≤ cap) (hl2 : bs.length ≤ 1000000) (hby : Bytes w a bs) (hlt : ∀ ad, a = some ad → ad.block < w.heap.size) :
    Calls Try.prog 19 #[.slice a bs.length cap] w (DecPost bs w) := by
  have H0 := Lib.hid (rdec0_of hl hl2 hby hlt)
  have HBY := Lib.hid hby
  clear hby hlt
  go_enter Try.func19, Try.ntmps19
  go_wp2_with fail
  generalize (w.alloc (.cells #[.int .i64 0, .int .i64 0, .string ⟨#[]⟩, .slice none 0 0] 24)).alloc (.cells #[.slice a bs.length cap, .int .i64 0, .bool false] 62) = W3 at *
  have hv := rvalue_any bs (w.heap.size + 1) 16 (Nat.le_refl _) 0 W3 H0.out.rr
  rw [show (16 - ((16 : Nat) : Int)) = 0 from rfl] at hv
  refine hv.mono ?_
  clear hv
  rintro e w4 ⟨hg4, ⟨v, r, c, at', hd, rfl, hrep, hrd4, hrest⟩ | ⟨hd, k0, n0, s0, a0, len0, cap0, at', rfl, hrd4⟩⟩
  · have hX4 := H0.out.box.kept hg4 (by simp)
    have hb4 := below_by H0.out.by_ hg4 (by omega)
    obtain ⟨k0, n0, s0, a0, len0, cap0, rfl⟩ := hrep.form
    have hrv := hrep.rep
    have hsz : w.heap.size + 1 < w4.heap.size := hrd4.lt
    obtain ⟨a1, cap1, y0, y1, y2, fy1, fy2, hal, hbl⟩ := hrd4.cells
    obtain ⟨x0, x1, x2, x3⟩ := hX4.cells
    obtain ⟨f0, f1, f2, f3⟩ := hX4.free
    rw [List.drop_zero] at hd
    have hlr : r.length = bs.length - at' := by rw [← hrest, List.length_drop]
    by_cases hat : at' = bs.length
    · have hr0 : r = [] := List.eq_nil_of_length_eq_zero (by omega)
      subst hr0
      obtain ⟨hbs, hchk, hdep, hle⟩ := dec_chk hl2 hd
      subst hbs
      subst hat
      have hds : dec v.enc = some v := by unfold dec; rw [hd]
      have HDS := Lib.hid hds
      have HC : Hid (∀ W, RepV W v (.agg #[.int .i64 k0, .int .i64 n0, .string s0, .slice a0 len0 cap0]) → Calls Try.prog 17 #[.agg #[.int .i64 k0, .int .i64 n0, .string s0, .slice a0 len0 cap0]] W (GivesI 0 W)) := fun W h => by
        rw [← hchk]; exact rcheck_any v W _ (by omega) h
      have HE : Hid (∀ W, RepV W v (.agg #[.int .i64 k0, .int .i64 n0, .string s0, .slice a0 len0 cap0]) → Calls Try.prog 27 #[.agg #[.int .i64 k0, .int .i64 n0, .string s0, .slice a0 len0 cap0]] W (Fresh v.enc W)) := fun W h => rencode_any _ v W _ (Nat.le_refl _) hle h
      have HCV : Hid (∀ W, Below w.heap.size w W → (convert 27 9 (.slice a v.enc.length cap)).run Try.prog W = .ok (.string ⟨v.enc.toArray⟩) W) := fun W h => (HBY.out.below h).conv cap
      have HRF : Hid (RepF (fun b => w.heap.size < b ∧ b < w4.heap.size) w4 v (.agg #[.int .i64 k0, .int .i64 n0, .string s0, .slice a0 len0 cap0])) := hrep.keep (fun b h => ⟨by have := H0.out.rr.lt; omega, h.2⟩) (fun _ _ => rfl)
      have HX4 := Lib.hid hX4
      have HB4 := Lib.hid hb4
      have HBa : Hid (Below w.heap.size w (w4.alloc (.cells #[.int .i64 k0, .int .i64 n0, .string s0, .slice a0 len0 cap0] 24))) := hb4.alloc (by omega) _
      have HBb : Hid (Below w.heap.size w (w4.alloc (.cells #[.int .i64 k0, .int .i64 n0, .string s0, .slice a0 len0 cap0] 24)).drew) := (hb4.alloc (by omega) _).drew
      have HRa : Hid (RepV (w4.alloc (.cells #[.int .i64 k0, .int .i64 n0, .string s0, .slice a0 len0 cap0] 24)).drew v (.agg #[.int .i64 k0, .int .i64 n0, .string s0, .slice a0 len0 cap0])) := RepV.below (((Below.refl _ _).alloc (Nat.le_refl _) _).drew) hrv
      generalize v.enc = bs at *
      clear hds hd hchk hdep hle hrest hlr hrep hrv hX4 hb4 hrd4
      go_wp2_with fail
      have z0 : (w4.alloc (.cells #[.int .i64 k0, .int .i64 n0, .string s0, .slice a0 len0 cap0] 24)).drew.cell? ⟨w4.heap.size, 0, none⟩ = some (.int .i64 k0) := by go_simp
      have z1 : (w4.alloc (.cells #[.int .i64 k0, .int .i64 n0, .string s0, .slice a0 len0 cap0] 24)).drew.cell? ⟨w4.heap.size, 1, none⟩ = some (.int .i64 n0) := by go_simp
      have z2 : (w4.alloc (.cells #[.int .i64 k0, .int .i64 n0, .string s0, .slice a0 len0 cap0] 24)).drew.cell? ⟨w4.heap.size, 2, none⟩ = some (.string s0) := by go_simp
      have z3 : (w4.alloc (.cells #[.int .i64 k0, .int .i64 n0, .string s0, .slice a0 len0 cap0] 24)).drew.cell? ⟨w4.heap.size, 3, none⟩ = some (.slice a0 len0 cap0) := by go_simp
      go_region_with (first
          | (go_at_call 17; ((with_reducible refine (HC.out _ HRa.out).mono ?_)); rintro e w5 ⟨rfl, hb5⟩; have HB5 := Lib.hid (HBb.out.trans (hb5.mono HBb.out.size)); have z50 := below_cell hb5 z0; have z51 := below_cell hb5 z1; have z52 := below_cell hb5 z2; have z53 := below_cell hb5 z3; have hcv5 := HCV.out _ HB5.out)
          | (go_at_call 27; ((with_reducible refine (HE.out _ (RepV.below hb5 HRa.out)).mono ?_)); rintro e w6 ⟨v6, rfl, hown6, hb6⟩; have HB6 := Lib.hid (HB5.out.trans (hb6.mono HB5.out.size)); have hcv7 := HCV.out _ HB6.out; obtain ⟨a6, cap6, rfl, hby6, _⟩ := own_bytes hown6; have hcv6 := hby6.conv cap6))
      all_goals
        have hX6 := box_on HX4.out hsz (.cells #[.int .i64 k0, .int .i64 n0, .string s0, .slice a0 len0 cap0] 24) hb5 hb6
        have z60 := below_cell hb6 z50
        have z61 := below_cell hb6 z51
        have z62 := below_cell hb6 z52
        have z63 := below_cell hb6 z53
        have HRV6 := Lib.hid (rep_on HRF.out _ hb5 hb6 (.int .i64 k0) (.int .i64 n0) (.string s0) (.slice a0 len0 cap0))
        clear x0 x1 x2 x3 f0 f1 f2 f3 hcv5 hcv6 hcv7 hby6 hown6 hb5 hb6 z0 z1 z2 z3 z50 z51 z52 z53 y0 y1 y2 fy1 fy2
        obtain ⟨x0, x1, x2, x3⟩ := hX6.cells
        obtain ⟨f0, f1, f2, f3⟩ := hX6.free
        have HX6 := Lib.hid hX6
        clear hX6
        go_wp2
        have h6 := (HX6.out.all (.int .i64 k0) (.int .i64 n0) (.string s0) (.slice a0 len0 cap0)).cells
        have h7 := rdec_good (below_sets HB6.out (.int .i64 k0) (.int .i64 n0) (.string s0) (.slice a0 len0 cap0)) HRV6.out HDS.out
        clear HRV6
        generalize (((w6.setCell ⟨w.heap.size, 0, none⟩ (.int .i64 k0)).setCell ⟨w.heap.size, 1, none⟩ (.int .i64 n0)).setCell ⟨w.heap.size, 2, none⟩ (.string s0)).setCell ⟨w.heap.size, 3, none⟩ (.slice a0 len0 cap0) = W7 at *
        exact bodyPost_ret (v := .tuple #[.agg #[.int .i64 k0, .int .i64 n0, .string s0, .slice a0 len0 cap0], .int .i64 0]) (by simp only [results, Try.results19]; simp [go_sem, h6.1, h6.2.1, h6.2.2.1, h6.2.2.2]) rfl h7
    · have hdn : dec bs = none := dec_none hd (fun v' e => by injection e with e; injection e with e1 e2; rw [e2] at hlr; simp at hlr; omega)
      have gat : ((at' : Int) != bs.length) = true := by simp; omega
      have HB4 := Lib.hid hb4
      have HDN := Lib.hid hdn
      have HX4 := Lib.hid hX4
      clear hb4 hdn hX4 hd hrep hrv hrd4 hlr hat hrest
      go_wp2_with fail
      go_quiet (fail)
      have hX5 : Box4 ((w4.alloc (.cells #[.int .i64 k0, .int .i64 n0, .string s0, .slice a0 len0 cap0] 24)).drewN nq) w.heap.size (.int .i64 0) (.int .i64 0) (.string ⟨#[]⟩) (.slice none 0 0) := (Below.heap_alloc w4 _ _ (by omega)).trans HX4.out
      have hb5 := below_drewN (HB4.out.alloc (by omega) (.cells #[.int .i64 k0, .int .i64 n0, .string s0, .slice a0 len0 cap0] 24)) nq
      clear x0 x1 x2 x3 f0 f1 f2 f3
      generalize (w4.alloc (.cells #[.int .i64 k0, .int .i64 n0, .string s0, .slice a0 len0 cap0] 24)).drewN nq = W5 at *
      obtain ⟨x0, x1, x2, x3⟩ := hX5.cells
      obtain ⟨f0, f1, f2, f3⟩ := hX5.free
      have HX5 := Lib.hid hX5
      have HB5 := Lib.hid hb5
      clear hX5 hb5
      go_wp2
      have h6 := (HX5.out.all (.int .i64 0) (.int .i64 0) (.string ⟨#[]⟩) (.slice none 0 0)).cells
      have h7 := below_sets HB5.out (.int .i64 0) (.int .i64 0) (.string ⟨#[]⟩) (.slice none 0 0)
      generalize (((W5.setCell ⟨w.heap.size, 0, none⟩ (.int .i64 0)).setCell ⟨w.heap.size, 1, none⟩ (.int .i64 0)).setCell ⟨w.heap.size, 2, none⟩ (.string ⟨#[]⟩)).setCell ⟨w.heap.size, 3, none⟩ (.slice none 0 0) = W6 at *
      exact bodyPost_ret (v := .tuple #[.agg #[.int .i64 0, .int .i64 0, .string ⟨#[]⟩, .slice none 0 0], .int .i64 10]) (by simp only [results, Try.results19]; simp [go_sem, h6.1, h6.2.1, h6.2.2.1, h6.2.2.2]) rfl (decPost_bad HDN.out h7)
  · have hX4 := H0.out.box.kept hg4 (by simp)
    have hb4 := below_by H0.out.by_ hg4 (by omega)
    have hsz : w.heap.size + 1 < w4.heap.size := hrd4.lt
    obtain ⟨a1, cap1, y0, y1, y2, fy1, fy2, hal, hbl⟩ := hrd4.cells
    obtain ⟨x0, x1, x2, x3⟩ := hX4.cells
    obtain ⟨f0, f1, f2, f3⟩ := hX4.free
    rw [List.drop_zero] at hd
    have hdn : dec bs = none := dec_none hd (fun v' e => by cases e)
    have HB4 := Lib.hid hb4
    have HDN := Lib.hid hdn
    have HX4 := Lib.hid hX4
    clear hb4 hdn hX4 hd hrd4
    go_wp2_with fail
    go_quiet (fail)
    have hX5 : Box4 ((w4.alloc (.cells #[.int .i64 k0, .int .i64 n0, .string s0, .slice a0 len0 cap0] 24)).drewN nq) w.heap.size (.int .i64 0) (.int .i64 0) (.string ⟨#[]⟩) (.slice none 0 0) := (Below.heap_alloc w4 _ _ (by omega)).trans HX4.out
    have hb5 := below_drewN (HB4.out.alloc (by omega) (.cells #[.int .i64 k0, .int .i64 n0, .string s0, .slice a0 len0 cap0] 24)) nq
    clear x0 x1 x2 x3 f0 f1 f2 f3
    generalize (w4.alloc (.cells #[.int .i64 k0, .int .i64 n0, .string s0, .slice a0 len0 cap0] 24)).drewN nq = W5 at *
    obtain ⟨x0, x1, x2, x3⟩ := hX5.cells
    obtain ⟨f0, f1, f2, f3⟩ := hX5.free
    have HX5 := Lib.hid hX5
    have HB5 := Lib.hid hb5
    clear hX5 hb5
    go_wp2
    have h6 := (HX5.out.all (.int .i64 0) (.int .i64 0) (.string ⟨#[]⟩) (.slice none 0 0)).cells
    have h7 := below_sets HB5.out (.int .i64 0) (.int .i64 0) (.string ⟨#[]⟩) (.slice none 0 0)
    generalize (((W5.setCell ⟨w.heap.size, 0, none⟩ (.int .i64 0)).setCell ⟨w.heap.size, 1, none⟩ (.int .i64 0)).setCell ⟨w.heap.size, 2, none⟩ (.string ⟨#[]⟩)).setCell ⟨w.heap.size, 3, none⟩ (.slice none 0 0) = W6 at *
    exact bodyPost_ret (v := .tuple #[.agg #[.int .i64 0, .int .i64 0, .string ⟨#[]⟩, .slice none 0 0], .int .i64 10]) (by simp only [results, Try.results19]; simp [go_sem, h6.1, h6.2.1, h6.2.2.1, h6.2.2.2]) rfl (decPost_bad HDN.out h7)
end Go.Proofs.Ytedkoifbjmemdaa
