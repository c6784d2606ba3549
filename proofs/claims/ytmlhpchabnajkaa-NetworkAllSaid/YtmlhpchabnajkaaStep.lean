/- a walk's bookkeeping: what may be written (S), where data lie (Dom), how the world has gone on (Step) -/
import Derived.Test.YtmlhpchabnajkaaFull
import Derived.Test.YtmlhpchabnajkaaCallI
namespace Go.Proofs.Ytmlhpchabnajkaa
set_option linter.unusedSimpArgs false
set_option linter.unusedVariables false
open Go.RowKit
/-- nothing but blocks of S has been written -/
structure Step (S : List Nat) (w w' : World) : Prop where
  os : w'.os = w.os
  tape : w'.tape = w.tape
  output : w'.output = w.output
  size : w.heap.size ≤ w'.heap.size
  block : ∀ b, b < w.heap.size → b ∉ S → w'.heap[b]? = w.heap[b]?
section
variable {S S' : List Nat} {a w w' : World}
theorem Step.refl (S : List Nat) (w : World) : Step S w w := ⟨rfl, rfl, rfl, Nat.le_refl _, fun _ _ _ => rfl⟩
theorem Step.trans (h : Step S a w) (k : Step S w w') : Step S a w' :=
  ⟨k.os.trans h.os, k.tape.trans h.tape, k.output.trans h.output, Nat.le_trans h.size k.size, fun b h1 h2 => (k.block b (Nat.lt_of_lt_of_le h1 h.size) h2).trans (h.block b h1 h2)⟩
theorem Step.drew (h : Step S a w) : Step S a w.drew := ⟨h.os, h.tape, h.output, h.size, h.block⟩
theorem Step.drewN (h : Step S a w) (n : Nat) : Step S a (w.drewN n) := ⟨h.os, h.tape, h.output, h.size, h.block⟩
theorem Step.alloc (h : Step S a w) (o : Obj) : Step S a (w.alloc o) :=
  ⟨h.os, h.tape, h.output, Nat.le_trans h.size (by simp), fun b h1 h2 => (Below.heap_alloc w o b (Nat.lt_of_lt_of_le h1 h.size)).trans (h.block b h1 h2)⟩
theorem Step.set (h : Step S a w) {p : Addr} (hp : p.block ∈ S ∨ a.heap.size ≤ p.block) (u : Value) : Step S a (w.setCell p u) :=
  ⟨h.os, h.tape, h.output, by simpa [World.setCell] using h.size, fun b h1 h2 => (Below.heap_setCell w p u b (by
    rintro rfl
    rcases hp with hp | hp
    · exact h2 hp
    · omega)).trans (h.block b h1 h2)⟩
theorem Step.setE {p : Addr} {u : Value} (hp : p.block ∈ S ∨ a.heap.size ≤ p.block) (h : Step S a w) : Step S a (w.setCell p u) := h.set hp u
theorem Step.of_below (h : Below w.heap.size w w') : Step S w w' := ⟨h.os, h.tape, h.output, h.size, fun b h1 _ => h.block b h1⟩
theorem Step.below (h : Step S a w) (hb : Below w.heap.size w w') : Step S a w' := h.trans (.of_below hb)
theorem Step.more (h : Step S a w) (hs : ∀ b ∈ S, b ∈ S') : Step S' a w := ⟨h.os, h.tape, h.output, h.size, fun b h1 h2 => h.block b h1 (fun h3 => h2 (hs b h3))⟩
/-- all that may be written is new -/
theorem Step.to_below (h : Step S a w) (hs : ∀ b ∈ S, a.heap.size ≤ b) : Below a.heap.size a w :=
  ⟨h.os, h.tape, h.output, h.size, fun b hb => h.block b hb (fun h1 => by have := hs b h1; omega)⟩
theorem Box.step {b : Nat} {cs : Array Value} {t : TypeId} (h : Box w b cs t) (hs : Step S w w') (hb : b ∉ S) : Box w' b cs t := (hs.block b h.lt hb).trans h
/-- where the data lie: G: those of the arguments or new ones; not in what may be written -/
def Dom (G : Nat → Prop) (S : List Nat) (w : World) : Nat → Prop := fun b => G b ∧ b < w.heap.size ∧ b ∉ S
section
variable {α : Type} {sz : Nat} {R : RepT α} {G : Nat → Prop} {x : α} {cs : List Value}
theorem Good.step (g : Good sz R) (h : R (Dom G S w) w x cs) (hs : Step S w w') : R (Dom G S w') w' x cs :=
  g.keep (fun _ hb => ⟨hb.1, Nat.lt_of_lt_of_le hb.2.1 hs.size, hb.2.2⟩) (fun b hb => hs.block b hb.2.1 hb.2.2) h
/-- new blocks may be written from now on -/
theorem Good.stepM (g : Good sz R) (h : R (Dom G S w) w x cs) (hs : Step S' w w') (hn : ∀ b ∈ S', b ∈ S ∨ w.heap.size ≤ b) : R (Dom G S' w') w' x cs :=
  g.keep (fun b hb => ⟨hb.1, Nat.lt_of_lt_of_le hb.2.1 hs.size, fun h1 => (hn b h1).elim hb.2.2 (fun h2 => by have := hb.2.1; omega)⟩)
    (fun b hb => hs.block b hb.2.1 (fun h1 => (hn b h1).elim hb.2.2 (fun h2 => by have := hb.2.1; omega))) h
/-- what a call hands back -/
theorem Good.back (g : Good sz R) (h : R (Fr (Dom G S w) w w') w' x cs) (hG : ∀ b, w.heap.size ≤ b → G b) (hs : ∀ b ∈ S, b < w.heap.size) : R (Dom G S w') w' x cs :=
  g.keep (fun b hb => ⟨hb.1.elim (fun h1 => h1.1) (hG b), hb.2, hb.1.elim (fun h1 => h1.2.2) (fun h1 h2 => by have := hs b h2; omega)⟩) (fun _ _ => rfl) h
theorem Good.now_ (g : Good sz R) (h : R (Dom G S w) w x cs) : R (Now w) w x cs := g.keep (fun _ hb => hb.2.1) (fun _ _ => rfl) h
theorem dom_lt (b : Nat) (h : Dom G S w b) : b < w.heap.size := h.2.1
/-- at the beginning -/
theorem Good.enter {F : Nat → Prop} (g : Good sz R) (h : R F a x cs) (hF : ∀ b, F b → b < a.heap.size) (hs : Step S a w) (hS : ∀ b ∈ S, a.heap.size ≤ b) : R (Dom (fun b => F b ∨ a.heap.size ≤ b) S w) w x cs :=
  g.keep (fun b hb => ⟨.inl hb, Nat.lt_of_lt_of_le (hF b hb) hs.size, fun h1 => by have := hS b h1; have := hF b hb; omega⟩) (fun b hb => hs.block b (hF b hb) (fun h1 => by have := hS b h1; have := hF b hb; omega)) h
/-- at the beginning of a law -/
theorem Good.enterT (g : Good sz R) (h : R (Now a) a x cs) (hs : Step S a w) (hS : ∀ b ∈ S, a.heap.size ≤ b) : R (Dom (fun _ => True) S w) w x cs :=
  g.keep (fun b hb => ⟨trivial, Nat.lt_of_lt_of_le hb hs.size, fun h1 => by have := hS b h1; have : b < a.heap.size := hb; omega⟩) (fun b hb => hs.block b hb (fun h1 => by have := hS b h1; have : b < a.heap.size := hb; omega)) h
/-- at the end -/
theorem Good.leave {F : Nat → Prop} (g : Good sz R) (h : R (Dom (fun b => F b ∨ a.heap.size ≤ b) S w) w x cs) (hs : Step S w w') : R (Fr F a w') w' x cs :=
  g.keep (fun _ hb => ⟨hb.1, Nat.lt_of_lt_of_le hb.2.1 hs.size⟩) (fun b hb => hs.block b hb.2.1 hb.2.2) h
end
end
theorem Box.newE (w : World) (b : Nat) (cs : Array Value) (t : TypeId) (h : b = w.heap.size) : Box (w.alloc (.cells cs t)) b cs t := by subst h; exact Box.new w cs t
theorem Box.setE {w : World} {b o : Nat} {cs cs' : Array Value} {t : TypeId} {v : Value} (h : Box w b cs t) (e : cs.setIfInBounds o v = cs') : Box (w.setCell ⟨b, o, none⟩ v) b cs' t := by subst e; exact h.set o v
theorem Box.otherE {w : World} {b b' o : Nat} {cs : Array Value} {t : TypeId} {v : Value} (hne : b ≠ b') (h : Box w b cs t) : Box (w.setCell ⟨b', o, none⟩ v) b cs t := h.other hne v
/-- a name for the world -/
theorem wp_name {P : Program} {c : Code} {Q : Exit → Act → World → Prop} {a : Act} {w : World} (h : ∀ W, W = w → c.wp P Q a W) : c.wp P Q a w := h w rfl
theorem post_name {P : Program} {fn : Func} {R : Ending → World → Prop} {e : Exit} {a : Act} {w : World} (h : ∀ W, W = w → bodyPost P fn R e a W) : bodyPost P fn R e a w := h w rfl
theorem cell_step {w w' : World} {b o : Nat} {v : Value} (h : w.cell? ⟨b, o, none⟩ = some v) (hs : Step [] w w') : w'.cell? ⟨b, o, none⟩ = some v := cell_kept (hs.block b (World.block_lt_of_cell? _ _ h) (fun h => by cases h)) h
/-- a variable's address -/
def PtrAt (cs : Array Value) (t : TypeId) (v : Value) (W : World) : Prop := ∃ g, v = .pointer (some ⟨g, 0, none⟩) ∧ Box W g cs t
theorem ptrAt_stable (cs : Array Value) (t : TypeId) : StableV (PtrAt cs t) := fun h ⟨g, e, hb⟩ => ⟨g, e, hb.below h⟩
theorem noS (w : World) : ∀ b ∈ ([] : List Nat), w.heap.size ≤ b := fun b h => by cases h
theorem noL (w : World) : ∀ b ∈ ([] : List Nat), b < w.heap.size := fun b h => by cases h
end Go.Proofs.Ytmlhpchabnajkaa
