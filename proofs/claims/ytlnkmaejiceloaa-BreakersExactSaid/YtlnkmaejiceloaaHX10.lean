import Derived.Test.YtlnkmaejiceloaaHX2
namespace Go.Proofs.Ytlnkmaejiceloaa
set_option linter.unusedVariables false
set_option linter.unusedSimpArgs false
open Go.RowKit
section
variable {P : Program} {B : Base} {T : Tab} {ops : Array Oper}
/-- one operation of the head, that may take a row made in the region: whatever else has run already -/
def HG (P : Program) (B : Base) (ops : Array Oper) (o : Oper) (tmi : Nat → V) (st0 : Nat → Option Blk) (rq : Option (Nat × Blk)) (nm : Nat) (v : V) (x : Option Blk) : Prop :=
  ∀ (tm : Nat → V) (σ : Nat → Option Blk) (fr : Nat → Prop) (E : Env) (a : Act), GamS P B σ fr E → GamT B tm E a → fr nm → (∀ n b, st0 n = some b → σ n = some b) → (∀ p, rq = some p → σ p.1 = some p.2) → (∀ t ∈ o.looksAt ops, tm t = tmi t) →
    (Region.wanted o (yielded ops a.tmps) = true → Upon P (fun u w' => ∃ E', E'.w = w' ∧ GamS P B (fun n => if n = nm then x else if rq.map (·.1) = some n then none else σ n) (fun n => fr n ∧ (x.isSome = true → n ≠ nm)) E' ∧ Ext E E' ∧ E'.dp = E.dp ∧ RV E' v u) ((execOp a.eval o).run P E.w)) ∧
    (Region.wanted o (yielded ops a.tmps) = false → x = none ∧ rq = none ∧ RV E v undef)
theorem HG.of {o : Oper} {tmi : Nat → V} {st0 : Nat → Option Blk} {nm : Nat} {v : V} {x : Option Blk} (h : HF P B ops o tmi st0 nm v x) : HG P B ops o tmi st0 none nm v x := by
  intro tm σ fr E a hS hT hfr hst _ hag
  obtain ⟨h1, h2⟩ := h tm σ fr E a hS hT hfr hst hag
  exact ⟨fun hw => (h1 hw).mono fun u w' ⟨E', e, hS', hr⟩ => ⟨E', e, hS'.congr (fun n => by simp) (fun n hn => hn), hr⟩, fun hw => ⟨(h2 hw).1, rfl, (h2 hw).2⟩⟩
end
end Go.Proofs.Ytlnkmaejiceloaa


namespace Go.Proofs.Ytlnkmaejiceloaa
set_option linter.unusedVariables false
set_option linter.unusedSimpArgs false
open Go.RowKit
section
variable {P : Program} {B : Base} {T : Tab}
end
end Go.Proofs.Ytlnkmaejiceloaa

