/- the examples of sane, plainly -/
import Derived.Test.YtmlhpchabnajkaaNetCut
namespace Go.Proofs.Ytmlhpchabnajkaa
set_option linter.unusedSimpArgs false
set_option linter.unusedVariables false
def p13 : Pkt := ⟨1, 3, [7]⟩
def net1 : NetM := ⟨[p13], []⟩
def net2 : NetM := ⟨[p13, p13], []⟩
def net3 : NetM := ⟨[p13, p13], [(1, 3)]⟩
def net4 : NetM := ⟨[p13], [(1, 3)]⟩
theorem sane_chk : chk .nil = 0 := by decide
theorem sane_del0 : askE .nil 0 = 1 ∧ delP .nil 0 = .nil ∧ loseN .nil 0 = .nil := ⟨by decide, rfl, rfl⟩
theorem sane_send33 : sendE .nil ⟨3, 3, []⟩ = 60 ∧ sendN .nil ⟨3, 3, []⟩ = .nil := ⟨by decide, rfl⟩
theorem sane_cut22 : cutE .nil 2 2 = 1 ∧ cutN .nil 2 2 true = .nil := ⟨by decide, rfl⟩
theorem sane_send : sendE .nil p13 = 0 ∧ sendN .nil p13 = net1 := ⟨by decide, rfl⟩
theorem sane_rep : repE net1 0 = 0 ∧ repN net1 0 = net2 := ⟨by decide, rfl⟩
theorem sane_cutL : allPairs.filter (keepB [] (1, 3) true) = [(1, 3)] := by decide +kernel
theorem sane_cut : cutE net2 3 1 = 0 ∧ cutN net2 3 1 true = net3 := by
  have h : cutE net2 3 1 = 0 := by decide
  refine ⟨h, ?_⟩
  unfold cutN
  rw [if_pos h]
  exact congrArg (NetM.mk _) sane_cutL
theorem sane_del1 : askE net2 0 = 0 ∧ delP net2 0 = p13 ∧ loseN net2 0 = net1 := ⟨by decide, rfl, rfl⟩
theorem sane_del2 : askE net3 1 = 0 ∧ delP net3 1 = .nil ∧ loseN net3 1 = net4 := ⟨by decide, rfl, rfl⟩
theorem sane_same : samePktB p13 p13 = true ∧ samePktB .nil .nil = true ∧ sameB net1 net1 = true := ⟨by decide, by decide, by decide⟩
end Go.Proofs.Ytmlhpchabnajkaa
