import Derived.Test.YthidfoohhhkobaaH18
namespace Go.Proofs.Ythidfoohhhkobaa
set_option linter.unusedVariables false
set_option linter.unusedSimpArgs false
open Go.RowKit
section
variable {P : Program} {B : Base} {Q : AQ} {s : St}
theorem gam_nilT {E : Env} {a : Act} (t el sz : Nat) (d0 : List D) (ht : lkT s.tm t = .d (.c (.slice none 0 0))) (hG : Gam P B s E a) :
    ∃ E', E'.w = E.w ∧ Gam P B ⟨put (some t) (.ow s.nx sz d0 []) s.tm, (s.nx, .tok el sz 0) :: s.st, s.nx + 1⟩ E' a := by
  obtain ⟨E', hw, hext, hη, hG'⟩ := gam_name (v := .slice none 0 0) (y := .tok el sz 0) rfl hG (fun E' hη _ _ => ⟨.slice none 0 0, [], hη, World.ownsRow_nil _ _ _ _, fun b hb' => by simp [hb] at hb'⟩)
  refine ⟨E', hw, hG'.1, ⟨fun t' => ?_, hG'.2.defers, hG'.2.size⟩⟩
  have h := hG'.2.tm t'
  show RV E' (lkT (put (some t) (.ow s.nx sz d0 []) s.tm) t') (vOf B a t')
  rw [lkT_put]
  by_cases e : t = t'
  · subst e
    rw [if_pos rfl]
    have h : RV E' (lkT s.tm t) (vOf B a t) := h
    rw [ht] at h
    simp only [RV, RD] at h
    rw [h]
    simp only [RV]
    exact ⟨hη, RD.nil_sl _ _ sz d0⟩
  · rw [if_neg (by simpa using e)]
    exact h
theorem aw_nilT (t el sz : Nat) (d0 : List D) {c : Code} (ht : lkT s.tm t = .d (.c (.slice none 0 0)))
    (h : AW P B c Q ⟨⟩ ⟨put (some t) (.ow s.nx sz d0 []) s.tm, (s.nx, .tok el sz 0) :: s.st, s.nx + 1⟩) : AW P B c Q ⟨⟩ s :=
  aw_weak (fun _ _ hG => gam_nilT t el sz d0 ht hG) h
end
end Go.Proofs.Ythidfoohhhkobaa

