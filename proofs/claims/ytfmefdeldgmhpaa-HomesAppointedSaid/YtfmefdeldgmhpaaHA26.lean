import Derived.Test.YtfmefdeldgmhpaaHA17
import Derived.Test.YtfmefdeldgmhpaaHA18
import Derived.Test.YtfmefdeldgmhpaaHA19
import Derived.Test.YtfmefdeldgmhpaaHA20
import Derived.Test.YtfmefdeldgmhpaaHA21
import Derived.Test.YtfmefdeldgmhpaaHA22
import Derived.Test.YtfmefdeldgmhpaaHA23
import Derived.Test.YtfmefdeldgmhpaaHA24
import Derived.Test.YtfmefdeldgmhpaaHA25
namespace Go.Proofs.Ytfmefdeldgmhpaa
set_option linter.unusedSimpArgs false
set_option linter.unusedVariables false
open Go.RowKit
theorem law8_spec (l : List Ent) (person agent day time : Int) (ho : l.length ≤ 140737488351232 ∧ ∀ x ∈ l, OkE x) : Spec Try.prog 14 [aEs l, aI person, aI agent, aI day, aI time] (.r1 (aB true)) := by
  by_cases hg : validL l person day time = true ∧ validL l agent day time = true ∧ l.length ≤ 22 ∧ person ≠ agent
  · obtain ⟨v1, v2, h22, hpa⟩ := hg
    rcases Nat.eq_zero_or_pos l.length with h0 | h0
    · by_cases hsm : noA l ≤ 1048576 ∧ day + 1 < 2097152 ∧ time + 1 < 2097152
      · by_cases hin : person ∈ agentsL l agent day time
        · exact law8_C0 l person agent day time ho v1 v2 h22 hpa h0 hsm hin
        · by_cases hb : 1 < (agentsL l (lastOf (agentsL l agent day time) agent) day time).length
          · exact law8_D0 l person agent day time ho v1 v2 h22 hpa h0 hsm hin hb
          · exact law8_E0 l person agent day time ho v1 v2 h22 hpa h0 hsm hin hb
      · exact law8_B0 l person agent day time ho v1 v2 h22 hpa h0 hsm
    · by_cases hsm : noA l ≤ 1048576 ∧ day + 1 < 2097152 ∧ time + 1 < 2097152
      · by_cases hin : person ∈ agentsL l agent day time
        · exact law8_C1 l person agent day time ho v1 v2 h22 hpa h0 hsm hin
        · by_cases hb : 1 < (agentsL l (lastOf (agentsL l agent day time) agent) day time).length
          · exact law8_D1 l person agent day time ho v1 v2 h22 hpa h0 hsm hin hb
          · exact law8_E1 l person agent day time ho v1 v2 h22 hpa h0 hsm hin hb
      · exact law8_B1 l person agent day time ho v1 v2 h22 hpa h0 hsm
  · exact law8_A l person agent day time ho hg
end Go.Proofs.Ytfmefdeldgmhpaa

