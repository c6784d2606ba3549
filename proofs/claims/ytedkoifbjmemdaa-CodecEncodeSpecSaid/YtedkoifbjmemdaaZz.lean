/- codec: unsigned, signed; frankingref01: unsigned -/
import Derived.Test.YtedkoifbjmemdaaNum
import Derived.Laws.DeepNot64
namespace Go.Proofs.Ytedkoifbjmemdaa
open Go.RowKit
theorem xor_ones (x : Nat) (h : x < 18446744073709551616) : x ^^^ 18446744073709551615 = 18446744073709551615 - x := by
  have h1 := BitVec.toNat_not (x := BitVec.ofNat 64 x)
  rw [← BitVec.xor_allOnes] at h1
  simpa [BitVec.toNat_xor, Nat.mod_eq_of_lt h] using h1
theorem uns_eq (n : Int) (h1 : -9223372036854775808 ≤ n) (h2 : n ≤ 9223372036854775807) :
    bits BinOp.xor IntKind.u64 (IntKind.u64.wrap (IntKind.u64.wrap n * 2)) (IntKind.u64.wrap (n / 9223372036854775808)) = (zz n : Int) := by
  have hw : ∀ m, IntKind.u64.wrap m = m % 18446744073709551616 := fun m => by simp [IntKind.wrap, IntKind.bits, IntKind.signed]
  rw [hw, hw, hw]
  by_cases h : 0 ≤ n
  · have e1 : n / 9223372036854775808 % 18446744073709551616 = 0 := by omega
    have e2 : n % 18446744073709551616 * 2 % 18446744073709551616 = 2 * n := by omega
    rw [e1, e2, u64_xor _ _ (by omega) (by omega) (by omega) (by omega)]
    simp [zz, h]; omega
  · have e1 : n / 9223372036854775808 % 18446744073709551616 = 18446744073709551615 := by omega
    have e2 : n % 18446744073709551616 * 2 % 18446744073709551616 = 2 * n + 18446744073709551616 := by omega
    rw [e1, e2, u64_xor _ _ (by omega) (by omega) (by omega) (by omega)]
    have e3 : (18446744073709551615 : Int).toNat = 18446744073709551615 := rfl
    rw [e3, xor_ones _ (by omega)]
    simp only [zz]
    rw [if_neg h]; omega
theorem unsigned_any (n : Int) (w : World) (h : i64R n) : Calls Try.prog 39 #[.int .i64 n] w fun e w' => e = .returned (.int .u64 (zz n)) ∧ w = w' := by
  unfold i64R at h
  obtain ⟨h1, h2⟩ := h
  rw [← uns_eq n h1 h2]
  go_enter Try.func39, Try.ntmps39
  go_wp2
  go_ret
  exact ⟨rfl, rfl⟩
theorem runsigned_any (n : Int) (w : World) (h : i64R n) : Calls Try.prog 43 #[.int .i64 n] w fun e w' => e = .returned (.int .u64 (zz n)) ∧ w = w' := by
  unfold i64R at h
  obtain ⟨h1, h2⟩ := h
  obtain ⟨z, hz⟩ : ∃ z : Int, (zz n : Int) = z := ⟨_, rfl⟩
  rw [hz]
  have HZ := Lib.hid hz
  clear hz
  go_enter Try.func43, Try.ntmps43
  go_wp2
  all_goals go_ret
  · exact ⟨ret_int (by rw [← HZ.out]; simp only [zz]; rw [if_pos ‹_›]; omega), rfl⟩
  · exact ⟨ret_int (by rw [← HZ.out]; simp only [zz]; rw [if_neg (by omega)]; omega), rfl⟩
theorem sig_eq (n : Nat) (h : n < 18446744073709551616) : bits BinOp.xor IntKind.i64 ((n : Int) / 2) (wrap64 (-wrap64 (bits BinOp.and IntKind.u64 (n : Int) 1))) = unzz n := by
  rw [and_one_u64 _ (by omega) (by omega)]
  by_cases h2 : n % 2 = 0
  · have e : (n : Int) % 2 = 0 := by omega
    rw [e]
    have e2 : wrap64 (-wrap64 0) = 0 := by simp [wrap64]
    rw [e2]
    simp only [unzz]; rw [if_pos h2]
    have e3 : (n : Int) / 2 = ((n / 2 : Nat) : Int) := by omega
    rw [e3]
    show IntKind.i64.wrap ((BitVec.ofInt 64 _ ^^^ BitVec.ofInt 64 0).toNat : Int) = _
    rw [show BitVec.ofInt 64 0 = 0#64 from rfl, BitVec.xor_zero, ofInt_u64 _ (by omega)]
    simp [IntKind.wrap, IntKind.bits, IntKind.signed]
    omega
  · have e : (n : Int) % 2 = 1 := by omega
    rw [e]
    have e2 : wrap64 (-wrap64 1) = -1 := by simp [wrap64]
    rw [e2]
    simp only [unzz]; rw [if_neg h2]
    have hx := i64_not (n / 2) (by omega)
    have e3 : (n : Int) / 2 = ((n / 2 : Nat) : Int) := by omega
    rw [e3]
    have hc : bits BinOp.xor IntKind.i64 ((n / 2 : Nat) : Int) (-1) = bits BinOp.xor IntKind.i64 (-1) ((n / 2 : Nat) : Int) := by
      show IntKind.i64.wrap ((BitVec.ofInt 64 _ ^^^ BitVec.ofInt 64 _).toNat : Int) = IntKind.i64.wrap ((BitVec.ofInt 64 _ ^^^ BitVec.ofInt 64 _).toNat : Int)
      rw [BitVec.xor_comm]
    rw [hc, hx]; omega
theorem signed_any (n : Nat) (w : World) (h : n < 18446744073709551616) : Calls Try.prog 45 #[.int .u64 n] w fun e w' => e = .returned (.int .i64 (unzz n)) ∧ w = w' := by
  rw [← sig_eq n h]
  go_enter Try.func45, Try.ntmps45
  go_wp2
  go_ret
  exact ⟨rfl, rfl⟩
end Go.Proofs.Ytedkoifbjmemdaa
