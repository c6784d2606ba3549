/- How values lie in memory. -/
import Derived.Test.YtedkoifbjmemdaaPlain
import Derived.Test.YtedkoifbjmemdaaProg
import Derived.WalkKit
import Derived.WalkLawsBesides
import Derived.WalkSpells
import Derived.Lib.Hide
import Derived.Deep.QuietTactic
import Derived.BigQuiet
import Derived.Deep.LoopGhost
import Derived.Deep.DeepCutAuto
import Derived.Deep.DeepFit
import Derived.Deep.Light
namespace Go.Proofs.Ytedkoifbjmemdaa
open Go.RowKit

mutual
def RepV (w : World) : V → Value → Prop
  | .mk k n s l, c => ∃ a cap, c = .agg #[.int .i64 k, .int .i64 n, .string ⟨s.toArray⟩, .slice a l.length cap] ∧ i64R k ∧ i64R n ∧ s.length ≤ 140737488351232 ∧ l.length ≤ cap ∧ l.length ≤ 140737488351232 ∧ RepL w l a
def RepL (w : World) : List V → Option Addr → Prop
  | [], _ => True
  | v :: l, a => ∃ b off c0 c1 c2 c3, a = some ⟨b, off, none⟩ ∧ w.cell? ⟨b, off, none⟩ = some c0 ∧ w.cell? ⟨b, off + 1, none⟩ = some c1 ∧ w.cell? ⟨b, off + 2, none⟩ = some c2 ∧ w.cell? ⟨b, off + 3, none⟩ = some c3 ∧ RepV w v (.agg #[c0, c1, c2, c3]) ∧ RepL w l (some ⟨b, off + 4, none⟩)
end

/-- the elements by their places -/
theorem RepL.get {w : World} : ∀ {l : List V} {a : Option Addr}, RepL w l a → ∀ i (h : i < l.length), ∃ b off c0 c1 c2 c3, a = some ⟨b, off, none⟩ ∧ w.cell? ⟨b, off + i * 4, none⟩ = some c0 ∧ w.cell? ⟨b, off + i * 4 + 1, none⟩ = some c1 ∧ w.cell? ⟨b, off + i * 4 + 2, none⟩ = some c2 ∧ w.cell? ⟨b, off + i * 4 + 3, none⟩ = some c3 ∧ RepV w l[i] (.agg #[c0, c1, c2, c3])
  | [], _, _, i, h => by simp at h
  | v :: l, a, hr, i, h => by
    simp only [RepL] at hr
    obtain ⟨b, off, c0, c1, c2, c3, rfl, h0, h1, h2, h3, hv, hl⟩ := hr
    cases i with
    | zero => exact ⟨b, off, c0, c1, c2, c3, rfl, by simpa using h0, by simpa using h1, by simpa using h2, by simpa using h3, hv⟩
    | succ i =>
      obtain ⟨b', off', d0, d1, d2, d3, e, g0, g1, g2, g3, hv'⟩ := RepL.get hl i (by simpa using h)
      simp only [Option.some.injEq, Addr.mk.injEq] at e
      obtain ⟨rfl, rfl, _⟩ := e
      have ee : off + 4 + i * 4 = off + (i + 1) * 4 := by omega
      rw [ee] at g0 g1 g2 g3
      exact ⟨b, off, d0, d1, d2, d3, rfl, g0, g1, g2, g3, hv'⟩

/-- the cells of an element, each by its kind -/
theorem RepL.at {w : World} {l : List V} {a : Option Addr} (hr : RepL w l a) (i : Nat) (h : i < l.length) : ∃ b off k n s a' len' cap', a = some ⟨b, off, none⟩ ∧ w.cell? ⟨b, off + i * 4, none⟩ = some (.int .i64 k) ∧ w.cell? ⟨b, off + i * 4 + 1, none⟩ = some (.int .i64 n) ∧ w.cell? ⟨b, off + i * 4 + 2, none⟩ = some (.string s) ∧ w.cell? ⟨b, off + i * 4 + 3, none⟩ = some (.slice a' len' cap') ∧ RepV w l[i] (.agg #[.int .i64 k, .int .i64 n, .string s, .slice a' len' cap']) := by
  obtain ⟨b, off, c0, c1, c2, c3, e, h0, h1, h2, h3, hv⟩ := hr.get i h
  have hv' := hv
  generalize hx : l[i] = x at *
  cases x with
  | mk k n s l' =>
    simp only [RepV] at hv
    obtain ⟨a', cap', hc, _⟩ := hv
    simp only [Value.agg.injEq, Array.mk.injEq, List.cons.injEq, and_true] at hc
    obtain ⟨rfl, rfl, rfl, rfl⟩ := hc
    exact ⟨b, off, k, n, _, a', _, cap', e, h0, h1, h2, h3, hv'⟩

/-- what lies in a world lies in every later one -/
theorem below_cell {w w' : World} (hb : Below w.heap.size w w') {a : Addr} {v : Value} (h : w.cell? a = some v) : w'.cell? a = some v := (hb.cell (World.block_lt_of_cell? _ _ h)).trans h
mutual
theorem RepV.below {w w' : World} (hb : Below w.heap.size w w') : ∀ {v : V} {c : Value}, RepV w v c → RepV w' v c
  | .mk k n s l, c, h => by
    simp only [RepV] at h ⊢
    obtain ⟨a, cap, h1, h2, h3, h4, h5, h6, h7⟩ := h
    exact ⟨a, cap, h1, h2, h3, h4, h5, h6, RepL.below hb h7⟩
theorem RepL.below {w w' : World} (hb : Below w.heap.size w w') : ∀ {l : List V} {a : Option Addr}, RepL w l a → RepL w' l a
  | [], _, _ => by simp only [RepL]
  | v :: l, a, h => by
    simp only [RepL] at h ⊢
    obtain ⟨b, off, c0, c1, c2, c3, e, h0, h1, h2, h3, hv, hl⟩ := h
    exact ⟨b, off, c0, c1, c2, c3, e, below_cell hb h0, below_cell hb h1, below_cell hb h2, below_cell hb h3, RepV.below hb hv, RepL.below hb hl⟩
end
end Go.Proofs.Ytedkoifbjmemdaa
