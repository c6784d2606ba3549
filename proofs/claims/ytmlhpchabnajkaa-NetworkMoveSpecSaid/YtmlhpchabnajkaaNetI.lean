/- rows of numbers of the call's own -/
import Derived.Test.YtmlhpchabnajkaaPush
import Derived.Test.YtmlhpchabnajkaaNetRep
namespace Go.Proofs.Ytmlhpchabnajkaa
set_option linter.unusedSimpArgs false
set_option linter.unusedVariables false
open Go.RowKit
theorem infoI : (Try.prog.info? 3).map (fun i => (i.zero, i.size, i.bytes)) = some (some (.int .i64 0), 1, 8) := by kernel_rfl
theorem elemI : Elem Try.prog 45 3 (.int .i64 0) 1 8 := ⟨Try.underlying45, infoI, rfl, by decide, fun _ h => by cases h⟩
theorem box_ownI {W : World} {g B : Nat} {x : Int} {t : TypeId} (h : Box W g #[.int .i64 x] t) (hx : i64R x) (hB : B ≤ g) : OwnL (RI .i64) 1 t B W (.slice (some ⟨g, 0, none⟩) 1 1) [x] :=
  ⟨[.int .i64 x], ⟨by simp, .inr ⟨g, 1, #[.int .i64 x], rfl, hB, h, Nat.le_refl _, by unfold maxLen; omega, by simp, by simp⟩⟩, [.int .i64 x], [], by simp, ⟨rfl, i64_wf hx⟩, rfl⟩
end Go.Proofs.Ytmlhpchabnajkaa
