/- frankingref01: the reader's numbers -/
import Derived.Test.YtedkoifbjmemdaaRR
namespace Go.Proofs.Ytedkoifbjmemdaa
open Go.RowKit
attribute [local go_sem ↓] Go.wp_at_zero Go.wp_at_succ
def NumRR (bs : List UInt8) (at_ : Nat) (R : Nat) (w : World) (e : Ending) (w' : World) : Prop :=
  w.grownBy w' (some R) ∧ ((∃ u r at', decNum (bs.drop at_) = some (u, r) ∧ e = .returned (.int .u64 (u : Nat)) ∧ RR w' R bs at' false ∧ bs.drop at' = r) ∨ (decNum (bs.drop at_) = none ∧ e = .returned (.int .u64 0) ∧ ∃ at', RR w' R bs at' true))
theorem RR.toBad {w : World} {R : Nat} {bs : List UInt8} {at_ : Nat} {bad : Bool} (h : RR w R bs at_ bad) (b' : Bool) : RR (w.setCell ⟨R, 2, none⟩ (.bool b')) R bs at_ b' := by
  obtain ⟨a, cap, h⟩ := h; exact ⟨a, cap, h.setBad b'⟩
theorem RR.cells {w : World} {R : Nat} {bs : List UInt8} {at_ : Nat} {bad : Bool} (h : RR w R bs at_ bad) :
    ∃ a cap, w.cell? ⟨R, 0, none⟩ = some (.slice a bs.length cap) ∧ w.cell? ⟨R, 1, none⟩ = some (.int .i64 at_) ∧ w.cell? ⟨R, 2, none⟩ = some (.bool bad) ∧ w.frozen? ⟨R, 1, none⟩ = false ∧ w.frozen? ⟨R, 2, none⟩ = false ∧ at_ ≤ bs.length ∧ bs.length ≤ 1000000 := by
  obtain ⟨a, cap, h⟩ := h
  obtain ⟨h0, h1, h2, h3, h4⟩ := h.cells
  exact ⟨a, cap, h0, h1, h2, h3, h4, h.2.2.2.2.2, h.2.2.1⟩

theorem add_val (u x i : Nat) (hx : x < 256) (hu : u < 128 ^ i) (h : i < 9 ∨ (i = 9 ∧ x ≤ 1)) :
    IntKind.u64.wrap ((u : Int) + IntKind.u64.wrap ((x : Int) % 128 * 2 ^ (7 * i))) = ((u + x % 128 * 128 ^ i : Nat) : Int) := by
  have hf := fit128 hx hu h
  have hp : ((2 : Int) ^ (7 * i)) = ((128 ^ i : Nat) : Int) := by
    rw [Int.pow_mul]; simp
  have hm : ((x : Int) % 128) = ((x % 128 : Nat) : Int) := by omega
  rw [hp, hm, ← Int.natCast_mul, wrapU _ (by omega), ← Int.natCast_add, wrapU _ hf]

theorem add_val0 (u x i : Nat) (hx : x < 256) (hu : u < 128 ^ i) (h0 : i = 0) : IntKind.u64.wrap ((u : Int) + (x : Int) % 128) = ((u + x % 128 * 128 ^ i : Nat) : Int) := by
  have := add_val u x i hx hu (by omega)
  subst h0
  rw [← this]
  have hm : ((x : Int) % 128) = ((x % 128 : Nat) : Int) := by omega
  simp only [Nat.mul_zero, Int.pow_zero, Int.mul_one]
  rw [hm, wrapU _ (by omega)]

set_option maxRecDepth 100000 in
set_option maxHeartbeats 3200000 in
theorem rnumber_any (bs : List UInt8) (at_ : Nat) (R : Nat) (w : World) (hr : RR w R bs at_ false) : Calls Try.prog 49 #[.pointer (some ⟨R, 0, none⟩)] w (NumRR bs at_ R w) := by
  have HR := Lib.hid hr
  clear hr
  go_enter Try.func49, Try.ntmps49
  go_wp2
  go_loopw [3, 4] (fun x y wr => ∃ (i u at' : Nat), i ≤ 9 ∧ y = .int .i64 i ∧ x = .int .u64 u ∧ u < 128 ^ i ∧ RR wr R bs at' false ∧ w.grownBy wr (some R) ∧ Hid (numK i u (decN (10 - i) i (bs.drop at')) = decNum (bs.drop at_))) (fun _ y _ => 10 - (intOf y).toNat)
  case atStart => exact ⟨0, 0, at_, by omega, rfl, rfl, by simp, HR.out, grownBy_refl _ _, numK_zero _⟩
  case round =>
    obtain ⟨i, u, at', hi, rfl, rfl, hu, hrd, hgr, hnum⟩ := hrel
    obtain ⟨a, cap, x0, x1, x2, f1, f2, hal, hbl⟩ := hrd.cells
    have HRD := Lib.hid hrd
    have HU := Lib.hid hu
    obtain ⟨f, hf⟩ : ∃ f, 10 - i = f + 1 := ⟨9 - i, by omega⟩
    rw [hf] at hnum
    clear hrd hu
    by_cases hend : at' = bs.length
    · subst hend
      have HDN : Hid (decNum (bs.drop at_) = none) := by unfold Hid; rw [← hnum.out, List.drop_length, num_nil]; rfl
      by_cases h0 : i = 0
      · subst h0
        obtain rfl : u = 0 := by have := HU.out; simpa using this
        go_wp2_with fail
        refine (next_end R bs false wr HRD.out).mono ?_
        rintro e w1 ⟨rfl, hr1, hg1⟩
        have hg2 := grownBy_trans1 hgr hg1
        go_wp2
        go_ret
        exact ⟨hg2, .inr ⟨HDN.out, rfl, _, hr1⟩⟩
      · have hpos : (0 : Int) < i := by omega
        by_cases h9 : i = 9
        · subst h9
          go_wp2_with fail
          refine (next_end R bs false wr HRD.out).mono ?_
          rintro e w1 ⟨rfl, hr1, hg1⟩
          have hg2 := grownBy_trans1 hgr hg1
          obtain ⟨a1, cap1, y0, y1, y2, fy1, fy2, _, _⟩ := hr1.cells
          go_wp2
          go_ret
          exact ⟨grownBy_setR hg2 _ _, .inr ⟨HDN.out, rfl, _, hr1.toBad true⟩⟩
        · have g9 : ((i : Int) == 9) = false := by simp; omega
          go_wp2_with fail
          refine (next_end R bs false wr HRD.out).mono ?_
          rintro e w1 ⟨rfl, hr1, hg1⟩
          have hg2 := grownBy_trans1 hgr hg1
          obtain ⟨a1, cap1, y0, y1, y2, fy1, fy2, _, _⟩ := hr1.cells
          go_wp2
          go_ret
          exact ⟨grownBy_setR hg2 _ _, .inr ⟨HDN.out, rfl, _, hr1.toBad true⟩⟩
    · have hlt : at' < bs.length := by omega
      have hdrop := List.drop_eq_getElem_cons hlt
      rw [hdrop] at hnum
      have hnx := next_some R bs at' false wr HRD.out hlt
      obtain ⟨c, hcE⟩ : ∃ c, bs[at'] = c := ⟨_, rfl⟩
      rw [hcE] at hnum hnx
      have hst := fun h => num_bad (f := f) (i := i) (c := c) (r := bs.drop (at' + 1)) h
      have hen := fun h h2 => num_end (f := f) (i := i) (u := u) (c := c) (r := bs.drop (at' + 1)) h h2
      have hgo := fun h h2 => num_go (f := f) (i := i) (u := u) (c := c) (r := bs.drop (at' + 1)) h h2
      rw [hnum.out] at hen hgo
      have hxb := c.toNat_lt
      generalize c.toNat = x at *
      have HNX := Lib.hid hnx
      have HST := Lib.hid hst
      have HEN := Lib.hid hen
      have HGO := Lib.hid hgo
      have HX : Hid (x < 256) := hxb
      have hxi : (x : Int) < 256 := by omega
      clear hst hen hgo hnx hdrop hxb hcE
      by_cases hcond : (i = 0 ∨ x ≠ 0) ∧ (i < 9 ∨ x ≤ 1)
      · have HCO := Lib.hid hcond
        have HFI := Lib.hid (show i < 9 ∨ (i = 9 ∧ x ≤ 1) by omega)
        by_cases h0 : i = 0
        · have g9 : ((i : Int) == 9) = false := by simp; omega
          have hd0 : decide ((0 : Int) < i) = false := by simp; omega
          have hd0' : decide (0 < i) = false := by simp; omega
          clear hcond
          go_wp2_with fail
          refine (HNX.out).mono ?_
          rintro e w1 ⟨rfl, hr1, hg1⟩
          have hg2 := grownBy_trans1 hgr hg1
          obtain ⟨a1, cap1, y0, y1, y2, fy1, fy2, _, _⟩ := hr1.cells
          go_wp2
          · go_ret
            have hxq : (x : Int) < 128 := by assumption
            have hxl : x < 128 := by omega
            refine ⟨hg2, .inl ⟨_, _, at' + 1, HEN.out HCO.out hxl, ?_, hr1, rfl⟩⟩
            exact ret_int (by rw [add_val0 u x i HX.out HU.out h0, mod_lt128 hxl])
          · go_roundw
            case rel =>
              have hxq : (128 : Int) ≤ x := by assumption
              have hx2 : ¬ x < 128 := by omega
              refine ⟨i + 1, u + (x - 128) * 128 ^ i, at' + 1, by omega, by go_num, ?_, ?_, hr1, hg2, ?_⟩
              · rw [add_val0 u x i HX.out HU.out h0, mod_ge128 hx2 HX.out]
              · have h1 := HU.out
                have h2 : (x - 128) * 128 ^ i ≤ 127 * 128 ^ i := Nat.mul_le_mul_right _ (by have := HX.out; omega)
                rw [Nat.pow_succ]; omega
              · have e1 : 10 - (i + 1) = f := by omega
                rw [e1]
                exact (HGO.out HCO.out hx2).symm
            case measure => simp [intOf]; omega
        · have hpos : (0 : Int) < i := by omega
          have g2 : ((x : Int) == 0) = false := by simp; omega
          by_cases h9 : i = 9
          · have g9 : ((i : Int) == 9) = true := by simp; omega
            have hd1 : decide ((1 : Int) < x) = false := by simp; omega
            have hd1' : decide (1 < x) = false := by simp; omega
            have hx1 : (x : Int) ≤ 1 := by omega
            clear hcond h9
            go_wp2_with fail
            refine (HNX.out).mono ?_
            rintro e w1 ⟨rfl, hr1, hg1⟩
            have hg2 := grownBy_trans1 hgr hg1
            obtain ⟨a1, cap1, y0, y1, y2, fy1, fy2, _, _⟩ := hr1.cells
            go_wp2
            · go_ret
              have hxq : (x : Int) < 128 := by assumption
              have hxl : x < 128 := by omega
              refine ⟨hg2, .inl ⟨_, _, at' + 1, HEN.out HCO.out hxl, ?_, hr1, rfl⟩⟩
              exact ret_int (by rw [add_val u x i HX.out HU.out HFI.out, mod_lt128 hxl])
          · have g9 : ((i : Int) == 9) = false := by simp; omega
            clear hcond
            go_wp2_with fail
            refine (HNX.out).mono ?_
            rintro e w1 ⟨rfl, hr1, hg1⟩
            have hg2 := grownBy_trans1 hgr hg1
            obtain ⟨a1, cap1, y0, y1, y2, fy1, fy2, _, _⟩ := hr1.cells
            go_wp2
            · go_ret
              have hxq : (x : Int) < 128 := by assumption
              have hxl : x < 128 := by omega
              refine ⟨hg2, .inl ⟨_, _, at' + 1, HEN.out HCO.out hxl, ?_, hr1, rfl⟩⟩
              exact ret_int (by rw [add_val u x i HX.out HU.out HFI.out, mod_lt128 hxl])
            · go_roundw
              case rel =>
                have hxq : (128 : Int) ≤ x := by assumption
                have hx2 : ¬ x < 128 := by omega
                refine ⟨i + 1, u + (x - 128) * 128 ^ i, at' + 1, by omega, by go_num, ?_, ?_, hr1, hg2, ?_⟩
                · rw [add_val u x i HX.out HU.out HFI.out, mod_ge128 hx2 HX.out]
                · have h1 := HU.out
                  have h2 : (x - 128) * 128 ^ i ≤ 127 * 128 ^ i := Nat.mul_le_mul_right _ (by have := HX.out; omega)
                  rw [Nat.pow_succ]; omega
                · have e1 : 10 - (i + 1) = f := by omega
                  rw [e1]
                  exact (HGO.out HCO.out hx2).symm
              case measure => simp [intOf]; omega
      · have HDN : Hid (decNum (bs.drop at_) = none) := by unfold Hid; rw [← hnum.out, HST.out hcond]; rfl
        have hpos : (0 : Int) < i := by omega
        by_cases h9 : i = 9
        · have g9 : ((i : Int) == 9) = true := by simp; omega
          by_cases hx1 : (1 : Int) < x
          · clear hcond h9
            go_wp2_with fail
            refine (HNX.out).mono ?_
            rintro e w1 ⟨rfl, hr1, hg1⟩
            have hg2 := grownBy_trans1 hgr hg1
            obtain ⟨a1, cap1, y0, y1, y2, fy1, fy2, _, _⟩ := hr1.cells
            go_wp2
            go_ret
            exact ⟨grownBy_setR hg2 _ _, .inr ⟨HDN.out, rfl, _, hr1.toBad true⟩⟩
          · have g2 : ((x : Int) == 0) = true := by simp; omega
            have hd1 : decide ((1 : Int) < x) = false := by simp; omega
            have hd1' : decide (1 < x) = false := by simp; omega
            clear hcond h9
            go_wp2_with fail
            refine (HNX.out).mono ?_
            rintro e w1 ⟨rfl, hr1, hg1⟩
            have hg2 := grownBy_trans1 hgr hg1
            obtain ⟨a1, cap1, y0, y1, y2, fy1, fy2, _, _⟩ := hr1.cells
            go_wp2
            go_ret
            exact ⟨grownBy_setR hg2 _ _, .inr ⟨HDN.out, rfl, _, hr1.toBad true⟩⟩
        · have g9 : ((i : Int) == 9) = false := by simp; omega
          have g2 : ((x : Int) == 0) = true := by simp; omega
          clear hcond h9
          go_wp2_with fail
          refine (HNX.out).mono ?_
          rintro e w1 ⟨rfl, hr1, hg1⟩
          have hg2 := grownBy_trans1 hgr hg1
          obtain ⟨a1, cap1, y0, y1, y2, fy1, fy2, _, _⟩ := hr1.cells
          go_wp2
          go_ret
          exact ⟨grownBy_setR hg2 _ _, .inr ⟨HDN.out, rfl, _, hr1.toBad true⟩⟩
end Go.Proofs.Ytedkoifbjmemdaa
