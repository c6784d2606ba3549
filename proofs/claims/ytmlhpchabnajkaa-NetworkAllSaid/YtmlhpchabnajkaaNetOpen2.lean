/- lists of moves, of packets, of bytes as arguments -/
import Derived.Test.YtmlhpchabnajkaaNetOpen
import Derived.Test.YtmlhpchabnajkaaNetOS
namespace Go.Proofs.Ytmlhpchabnajkaa
set_option linter.unusedSimpArgs false
set_option linter.unusedVariables false
open Go.ChangeShapes Go.WideShapes Go.ChangeAt Go.RowKit
theorem opens_mv : Opens Try.prog 52 RMv := opens_map (f := fun x : UInt8 × UInt8 × UInt8 × UInt8 × UInt8 × Unit => (⟨x.1, x.2.1, x.2.2.1, x.2.2.2.1, x.2.2.2.2.1⟩ : Mv)) (opens_struct Try.underlying52 (by kernel_rfl)
    (opensL_cons good_u8 (opens_u8 Try.underlying5) (by kernel_rfl) rfl (by simp) (opensL_cons good_u8 (opens_u8 Try.underlying5) (by kernel_rfl) rfl (by simp) (opensL_cons good_u8 (opens_u8 Try.underlying5) (by kernel_rfl) rfl (by simp)
      (opensL_cons good_u8 (opens_u8 Try.underlying5) (by kernel_rfl) rfl (by simp) (opensL_cons good_u8 (opens_u8 Try.underlying5) (by kernel_rfl) rfl (by simp) opensL_nil)))))) (fun {F w x cs} h => by
  obtain ⟨c1, d1, rfl, rfl, c2, d2, rfl, rfl, c3, d3, rfl, rfl, c4, d4, rfl, rfl, c5, d5, rfl, rfl, rfl⟩ := h
  rfl)
theorem opens_mvs : Opens Try.prog 48 (RS 5 RMv) := opens_slice good_mv opens_mv Try.underlying48 (by kernel_rfl) (by decide) (Nat.le_of_ble_eq_true (by kernel_rfl))
theorem opens_pks : Opens Try.prog 22 (RS 3 RPk) := opens_slice good_pk opens_pk Try.underlying22 (by kernel_rfl) (by decide) (Nat.le_of_ble_eq_true (by kernel_rfl))
theorem opens_u8s : Opens Try.prog 26 (RS 1 RU8) := opens_slice good_u8 (opens_u8 Try.underlying5) Try.underlying26 (by kernel_rfl) (by decide) (Nat.le_of_ble_eq_true (by kernel_rfl))
end Go.Proofs.Ytmlhpchabnajkaa
