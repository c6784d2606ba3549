/- one element more in a row of the call's own -/
import Derived.Test.YtmlhpchabnajkaaStep
namespace Go.Proofs.Ytmlhpchabnajkaa
set_option linter.unusedSimpArgs false
set_option linter.unusedVariables false
open Go.RowKit
section
variable {α : Type} {sz : Nat} {R : RepT α}
theorem below_new1 (w : World) (o : Obj) : Below w.heap.size w (w.alloc o) := (Below.refl _ _).alloc (Nat.le_refl _) _
theorem OwnL.push (g : Good sz R) {e : TypeId} (t : TypeId) {B : Nat} {W : World} {v : Value} {l : List α} {x : α} {cs : Array Value} (h : OwnL R sz e B W v l) (hx : R (Off W v) W x cs.toList) (hB : B ≤ W.heap.size) :
    ∃ xs, (W.alloc (.cells cs t)).ownsRow B e sz v l.length xs ∧ (∀ j u, cs.toList[j]? = some u → (W.alloc (.cells cs t)).cell? ((⟨W.heap.size, 0, none⟩ : Addr).add j) = some u) ∧ cs.toList.length = 1 * sz ∧ (∀ u ∈ cs.toList, u.oneCell' = true) ∧
      ∀ v' w', Grew B e sz (W.alloc (.cells cs t)) v v' (l.length + 1) (xs ++ cs.toList) w' → OwnL R sz e B w' v' (l ++ [x]) ∧ Below B W w' := by
  obtain ⟨xs, h1, h2⟩ := h
  have hb := below_new1 W (.cells cs t)
  have hoff : ∀ b, Off W v b → Off (W.alloc (.cells cs t)) v b := fun b h => ⟨Nat.lt_of_lt_of_le h.1 hb.size, h.2⟩
  have hk : ∀ b, Off W v b → (W.alloc (.cells cs t)).heap[b]? = W.heap[b]? := fun b h => hb.block b h.1
  refine ⟨xs, own_later h1 hb, World.news_of_block (cs := cs) (t := t) (fr := (0, 0)) (heap_alloc_new W _), by rw [g.len hx]; omega, g.one hx, fun v' w' hg => ⟨?_, ?_⟩⟩
  · exact OwnL.grew (m := [x]) g (h2.keep g hoff hk) (CellsL.single (g.keep hoff hk hx)) hg
  · exact (hb.mono hB).trans (hg.below (Nat.le_trans hB hb.size) fun k hk => (h1.lt k hk).1)
theorem Step.of_from {S : List Nat} {B : Nat} {w w' : World} (hB : w.heap.size ≤ B) (h : Below B w w') : Step S w w' := ⟨h.os, h.tape, h.output, h.size, fun b h1 _ => h.block b (Nat.lt_of_lt_of_le h1 hB)⟩
theorem Step.then_from {S : List Nat} {B : Nat} {a w w' : World} (h : Step S a w) (hB : a.heap.size ≤ B) (k : Below B w w') : Step S a w' :=
  ⟨k.os.trans h.os, k.tape.trans h.tape, k.output.trans h.output, Nat.le_trans h.size k.size, fun b h1 h2 => (k.block b (Nat.lt_of_lt_of_le h1 hB)).trans (h.block b h1 h2)⟩
end
end Go.Proofs.Ytmlhpchabnajkaa
