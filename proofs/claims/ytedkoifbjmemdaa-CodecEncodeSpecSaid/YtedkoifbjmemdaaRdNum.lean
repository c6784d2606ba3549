/- codec: the reader's numbers -/
import Derived.Test.YtedkoifbjmemdaaRd
namespace Go.Proofs.Ytedkoifbjmemdaa
set_option linter.unusedSimpArgs false
set_option linter.unusedVariables false
open Go.RowKit
theorem grownBy_trans1 {a b c : World} {B : Nat} (h : a.grownBy b (some B)) (k : b.grownBy c (some B)) : a.grownBy c (some B) := h.andThen k (fun j hj => .inr hj)
/-- what a round of reading a numeral does to the answer -/
def numK (i u : Nat) (o : Option (Nat × List UInt8)) : Option (Nat × List UInt8) := o.map fun p => (u + p.1 * 128 ^ i, p.2)
theorem numK_zero (o : Option (Nat × List UInt8)) : numK 0 0 o = o := by
  unfold numK
  cases o with
  | none => rfl
  | some p => simp
theorem num_nil (f i : Nat) : decN (f + 1) i [] = none := rfl
theorem num_bad {f i : Nat} {c : UInt8} {r : List UInt8} (h : ¬ ((i = 0 ∨ c.toNat ≠ 0) ∧ (i < 9 ∨ c.toNat ≤ 1))) : decN (f + 1) i (c :: r) = none := by
  unfold decN; rw [if_neg h]
theorem num_end {f i u : Nat} {c : UInt8} {r : List UInt8} (h : (i = 0 ∨ c.toNat ≠ 0) ∧ (i < 9 ∨ c.toNat ≤ 1)) (hc : c.toNat < 128) : numK i u (decN (f + 1) i (c :: r)) = some (u + c.toNat * 128 ^ i, r) := by
  unfold decN numK; rw [if_pos h, if_pos hc]; rfl
theorem num_go {f i u : Nat} {c : UInt8} {r : List UInt8} (h : (i = 0 ∨ c.toNat ≠ 0) ∧ (i < 9 ∨ c.toNat ≤ 1)) (hc : ¬ c.toNat < 128) : numK i u (decN (f + 1) i (c :: r)) = numK (i + 1) (u + (c.toNat - 128) * 128 ^ i) (decN f (i + 1) r) := by
  have h1 : decN (f + 1) i (c :: r) = (decN f (i + 1) r).map fun p => (c.toNat - 128 + 128 * p.1, p.2) := by rw [decN]; rw [if_pos h, if_neg hc]
  rw [h1]
  unfold numK
  cases decN f (i + 1) r with
  | none => rfl
  | some p =>
    simp only [Option.map_some, Option.some.injEq, Prod.mk.injEq, and_true]
    rw [Nat.add_mul, Nat.pow_succ, Nat.add_assoc, Nat.mul_comm 128 p.1, Nat.mul_assoc, Nat.mul_comm 128 (128 ^ i)]
theorem and127 (x : Nat) (hx : x < 256) : bits BinOp.and IntKind.u8 (x : Int) 127 = ((x % 128 : Nat) : Int) := by
  have h := u8_and_nat x 127 hx (by omega)
  rw [show ((127 : Nat) : Int) = 127 from rfl] at h
  rw [h]
  have h3 : ∀ x < 256, x &&& 127 = x % 128 := by decide +kernel
  rw [h3 x hx]
theorem wrapU (n : Nat) (h : n < 18446744073709551616) : IntKind.u64.wrap (n : Int) = n := by
  simp [IntKind.wrap, IntKind.bits, IntKind.signed]; omega
theorem fit128 {u x i : Nat} (hx : x < 256) (hu : u < 128 ^ i) (h : i < 9 ∨ (i = 9 ∧ x ≤ 1)) : u + x % 128 * 128 ^ i < 18446744073709551616 := by
  rcases h with h | ⟨rfl, h⟩
  · have h1 : x % 128 * 128 ^ i ≤ 127 * 128 ^ i := Nat.mul_le_mul_right _ (by omega)
    have h2 : 128 ^ i ≤ 128 ^ 8 := Nat.pow_le_pow_right (by omega) (by omega)
    have h3 : (128 : Nat) ^ 8 = 72057594037927936 := by decide
    omega
  · have h3 : (128 : Nat) ^ 9 = 9223372036854775808 := by decide
    rw [h3] at hu ⊢
    omega
theorem or_val (u x i : Nat) (hx : x < 256) (hu : u < 128 ^ i) (h : i < 9 ∨ (i = 9 ∧ x ≤ 1)) :
    bits BinOp.or IntKind.u64 (u : Int) (IntKind.u64.wrap (IntKind.u64.wrap (bits BinOp.and IntKind.u8 (x : Int) 127) * 2 ^ (7 * i))) = ((u + x % 128 * 128 ^ i : Nat) : Int) := by
  have hf := fit128 hx hu h
  rw [and127 x hx, wrapU _ (by omega)]
  have hp : ((2 : Int) ^ (7 * i)) = ((128 ^ i : Nat) : Int) := by
    rw [Int.pow_mul]; simp
  rw [hp, ← Int.natCast_mul, wrapU _ (by omega), u64_or_nat _ _ (by omega) (by omega)]
  congr 1
  have hp2 : (128 : Nat) ^ i = 2 ^ (7 * i) := by rw [Nat.pow_mul]
  rw [hp2] at hu ⊢
  have := Nat.two_pow_add_eq_or_of_lt hu (x % 128)
  rw [Nat.or_comm, Nat.mul_comm (x % 128), ← this, Nat.add_comm]
theorem mod_lt128 {x : Nat} (h : x < 128) : x % 128 = x := Nat.mod_eq_of_lt h
theorem mod_ge128 {x : Nat} (h : ¬ x < 128) (h2 : x < 256) : x % 128 = x - 128 := by omega
def NumRd (bs : List UInt8) (B : Nat) (w : World) (e : Ending) (w' : World) : Prop :=
  w.grownBy w' (some B) ∧ ((∃ u r, decNum bs = some (u, r) ∧ e = .returned (.int .u64 (u : Nat)) ∧ Rd w' B r) ∨ (decNum bs = none ∧ e = .panicked codeP))

set_option maxRecDepth 100000 in
set_option maxHeartbeats 3200000 in
theorem number_any (bs : List UInt8) (B : Nat) (w : World) (hr : Rd w B bs) : Calls Try.prog 46 #[.pointer (some ⟨B, 0, none⟩)] w (NumRd bs B w) := by
  have HR := Lib.hid hr
  clear hr
  go_enter Try.func46, Try.ntmps46
  go_wp2
  go_loopw [2, 3] (fun x y wr => ∃ (i u : Nat) (rs : List UInt8), i ≤ 9 ∧ y = .int .i64 i ∧ x = .int .u64 u ∧ u < 128 ^ i ∧ Rd wr B rs ∧ w.grownBy wr (some B) ∧ Hid (numK i u (decN (10 - i) i rs) = decNum bs)) (fun _ y _ => 10 - (intOf y).toNat)
  case atStart => exact ⟨0, 0, bs, by omega, rfl, rfl, by simp, HR.out, grownBy_refl _ _, numK_zero _⟩
  case round =>
    obtain ⟨i, u, rs, hi, rfl, rfl, hu, hrd, hgr, hnum⟩ := hrel
    have HRD := Lib.hid hrd
    have HU := Lib.hid hu
    obtain ⟨f, hf⟩ : ∃ f, 10 - i = f + 1 := ⟨9 - i, by omega⟩
    rw [hf] at hnum
    clear hrd hu
    cases rs with
    | nil =>
      go_wp2_with fail
      refine (take_rd_no HRD.out 1 (by simp)).mono ?_
      rintro e w1 ⟨rfl, rfl⟩
      exact ⟨rfl, hgr, .inr ⟨by rw [← hnum.out]; rfl, rfl⟩⟩
    | cons c r =>
      go_wp2_with fail
      refine (take_rd HRD.out 1 (by simp)).mono ?_
      rintro e w1 ⟨a1, rfl, hby, _, hrd1, hgr1⟩
      obtain ⟨b1, off1, rfl, hc1⟩ := hby.resolve_left (by simp)
      have hc0 := hc1 0 (by simp)
      simp only [List.take_succ_cons, List.take_zero, List.getElem_cons_zero, Nat.add_zero, byteV] at hc0
      have hg2 := grownBy_trans1 hgr hgr1
      have HRD1 := Lib.hid hrd1
      clear hby hc1 hrd1 hgr1
      simp only [List.drop_succ_cons, List.drop_zero] at HRD1
      have hcb := c.toNat_lt
      have hst := fun h => num_bad (f := f) (i := i) (c := c) (r := r) h
      have hen := fun h h2 => num_end (f := f) (i := i) (u := u) (c := c) (r := r) h h2
      have hgo := fun h h2 => num_go (f := f) (i := i) (u := u) (c := c) (r := r) h h2
      rw [hnum.out] at hen hgo
      generalize c.toNat = x at *
      have HST := Lib.hid hst
      have HEN := Lib.hid hen
      have HGO := Lib.hid hgo
      clear hst hen hgo
      have HW : Hid (∀ p w, Calls Try.prog 33 #[p, .bool true] w fun e w' => e = .returned (.tuple #[]) ∧ w = w') := want_yes
      have HX : Hid (x < 256) := hcb
      have HN : Hid (∀ p w, Calls Try.prog 33 #[p, .bool false] w fun e w' => e = .panicked codeP ∧ w = w') := want_no
      by_cases hcond : (i = 0 ∨ x ≠ 0) ∧ (i < 9 ∨ x ≤ 1)
      · have HCO := Lib.hid hcond
        have HFI := Lib.hid (show i < 9 ∨ (i = 9 ∧ x ≤ 1) by omega)
        by_cases h0 : i = 0
        · have g1 : ((i : Int) == 0) = true := by simpa using h0
          have h9 : (i : Int) < 9 := by omega
          clear hcond h0
          go_wp2_with fail
          with_reducible refine (HW.out _ _).mono ?_
          rintro e w2 ⟨rfl, rfl⟩
          go_wp2
          · go_ret
            have hxi : (x : Int) < 128 := by assumption
            have hxl : x < 128 := by omega
            refine ⟨hg2, .inl ⟨_, _, HEN.out HCO.out hxl, ?_, HRD1.out⟩⟩
            exact ret_int (by rw [or_val u x i HX.out HU.out HFI.out, mod_lt128 hxl])
          · go_roundw
            case rel =>
              have hxi : (128 : Int) ≤ x := by assumption
              have hx2 : ¬ x < 128 := by omega
              refine ⟨i + 1, u + (x - 128) * 128 ^ i, r, by omega, by go_num, ?_, ?_, HRD1.out, hg2, ?_⟩
              · rw [or_val u x i HX.out HU.out HFI.out, mod_ge128 hx2 HX.out]
              · have h1 := HU.out
                have h2 : (x - 128) * 128 ^ i ≤ 127 * 128 ^ i := Nat.mul_le_mul_right _ (by have := HX.out; omega)
                rw [Nat.pow_succ]; omega
              · have e1 : 10 - (i + 1) = f := by omega
                rw [e1]
                exact (HGO.out HCO.out hx2).symm
            case measure => simp [intOf]; omega
        · have g1 : ((i : Int) == 0) = false := by simp; omega
          have g2 : ((x : Int) != 0) = true := by simp; omega
          by_cases h9 : (i : Int) < 9
          · clear hcond
            go_wp2_with fail
            with_reducible refine (HW.out _ _).mono ?_
            rintro e w2 ⟨rfl, rfl⟩
            go_wp2
            · go_ret
              have hxi : (x : Int) < 128 := by assumption
              have hxl : x < 128 := by omega
              refine ⟨hg2, .inl ⟨_, _, HEN.out HCO.out hxl, ?_, HRD1.out⟩⟩
              exact ret_int (by rw [or_val u x i HX.out HU.out HFI.out, mod_lt128 hxl])
            · go_roundw
              case rel =>
                have hxi : (128 : Int) ≤ x := by assumption
                have hx2 : ¬ x < 128 := by omega
                refine ⟨i + 1, u + (x - 128) * 128 ^ i, r, by omega, by go_num, ?_, ?_, HRD1.out, hg2, ?_⟩
                · rw [or_val u x i HX.out HU.out HFI.out, mod_ge128 hx2 HX.out]
                · have h1 := HU.out
                  have h2 : (x - 128) * 128 ^ i ≤ 127 * 128 ^ i := Nat.mul_le_mul_right _ (by have := HX.out; omega)
                  rw [Nat.pow_succ]; omega
                · have e1 : 10 - (i + 1) = f := by omega
                  rw [e1]
                  exact (HGO.out HCO.out hx2).symm
              case measure => simp [intOf]; omega
          · have g3 : (x : Int) ≤ 1 := by omega
            clear hcond
            go_wp2_with fail
            with_reducible refine (HW.out _ _).mono ?_
            rintro e w2 ⟨rfl, rfl⟩
            go_wp2
            · go_ret
              have hxi : (x : Int) < 128 := by assumption
              have hxl : x < 128 := by omega
              refine ⟨hg2, .inl ⟨_, _, HEN.out HCO.out hxl, ?_, HRD1.out⟩⟩
              exact ret_int (by rw [or_val u x i HX.out HU.out HFI.out, mod_lt128 hxl])
      · have HCO := Lib.hid hcond
        have g1 : ((i : Int) == 0) = false := by simp; omega
        by_cases h0 : x = 0
        · have g2 : ((x : Int) != 0) = false := by simp; omega
          clear hcond h0
          go_wp2_with fail
          with_reducible refine (HN.out _ _).mono ?_
          rintro e w2 ⟨rfl, rfl⟩
          exact ⟨rfl, hg2, .inr ⟨by rw [← hnum.out, HST.out HCO.out]; rfl, rfl⟩⟩
        · have g2 : ((x : Int) != 0) = true := by simp; omega
          have h9 : decide ((i : Int) < 9) = false := by simp; omega
          have g3 : decide ((x : Int) ≤ 1) = false := by simp; omega
          clear hcond h0
          go_wp2_with fail
          with_reducible refine (HN.out _ _).mono ?_
          rintro e w2 ⟨rfl, rfl⟩
          exact ⟨rfl, hg2, .inr ⟨by rw [← hnum.out, HST.out HCO.out]; rfl, rfl⟩⟩
end Go.Proofs.Ytedkoifbjmemdaa
