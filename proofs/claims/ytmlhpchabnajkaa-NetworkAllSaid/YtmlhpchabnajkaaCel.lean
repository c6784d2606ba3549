/- how Go's data lie in memory, over any program: a datum's cells, rows of data, rows of the call's own -/
import Derived.Test.YtmlhpchabnajkaaOwn
namespace Go.Proofs.Ytmlhpchabnajkaa
set_option linter.unusedSimpArgs false
set_option linter.unusedVariables false
open Go.RowKit

/-- the cells of a datum; F: the blocks in which the memory behind them lies -/
abbrev RepT (α : Type) := (Nat → Prop) → World → α → List Value → Prop
def Now (w : World) : Nat → Prop := fun b => b < w.heap.size

structure Good {α : Type} (sz : Nat) (R : RepT α) : Prop where
  keep : ∀ {F F' : Nat → Prop} {w w' : World}, (∀ b, F b → F' b) → (∀ b, F b → w'.heap[b]? = w.heap[b]?) → ∀ {x : α} {cs : List Value}, R F w x cs → R F' w' x cs
  len : ∀ {F : Nat → Prop} {w : World} {x : α} {cs : List Value}, R F w x cs → cs.length = sz
  one : ∀ {F : Nat → Prop} {w : World} {x : α} {cs : List Value}, R F w x cs → ∀ u ∈ cs, u.oneCell' = true

def RI (k : IntKind) : RepT Int := fun _ _ n cs => cs = [.int k n] ∧ (Lit.int k n).wf = true
def RB : RepT Bool := fun _ _ b cs => cs = [.bool b]
def byteV (b : UInt8) : Value := .int .u8 b.toNat
def RU8 : RepT UInt8 := fun _ _ b cs => cs = [byteV b]
def RStr : RepT (List UInt8) := fun _ _ s cs => cs = [.string ⟨s.toArray⟩] ∧ s.length ≤ 140737488351232
theorem good_int (k : IntKind) : Good 1 (RI k) := ⟨fun _ _ _ _ h => h, fun h => by rw [h.1]; rfl, fun h => by rw [h.1]; simp [Value.oneCell']⟩
theorem good_bool : Good 1 RB := ⟨fun _ _ _ _ h => h, fun h => by rw [h]; rfl, fun h => by rw [h]; simp [Value.oneCell']⟩
theorem good_u8 : Good 1 RU8 := ⟨fun _ _ _ _ h => h, fun h => by rw [h]; rfl, fun h => by rw [h]; simp [byteV, Value.oneCell']⟩
theorem good_str : Good 1 RStr := ⟨fun _ _ _ _ h => h, fun h => by rw [h.1]; rfl, fun h => by rw [h.1]; simp [Value.oneCell']⟩

/-- the data of a list, one after the other from an address on -/
def RRow {α : Type} (sz : Nat) (R : RepT α) (F : Nat → Prop) (w : World) (l : List α) (a : Option Addr) : Prop :=
  ∀ i (h : i < l.length), ∃ b off cs, a = some ⟨b, off, none⟩ ∧ F b ∧ R F w l[i] cs ∧ ∀ j u, cs[j]? = some u → w.cell? ⟨b, off + i * sz + j, none⟩ = some u
def RS {α : Type} (sz : Nat) (R : RepT α) : RepT (List α) := fun F w l cs => ∃ a cap, cs = [.slice a l.length cap] ∧ l.length ≤ cap ∧ l.length ≤ 140737488351232 ∧ RRow sz R F w l a
def RP {α β : Type} (R : RepT α) (S : RepT β) : RepT (α × β) := fun F w p cs => ∃ c1 c2, cs = c1 ++ c2 ∧ R F w p.1 c1 ∧ S F w p.2 c2
def RM {α β : Type} (f : β → α) (R : RepT α) : RepT β := fun F w b cs => R F w (f b) cs

section
variable {α β : Type} {sz : Nat} {R : RepT α} {F F' : Nat → Prop} {w w' : World} {l : List α} {a : Option Addr}
theorem cell_kept {b o : Nat} {u : Value} (hk : w'.heap[b]? = w.heap[b]?) (h : w.cell? ⟨b, o, none⟩ = some u) : w'.cell? ⟨b, o, none⟩ = some u :=
  (World.cell?_of_block (w := w) (w' := w') (a := ⟨b, o, none⟩) hk).trans h
theorem RRow.keep (g : Good sz R) (hF : ∀ b, F b → F' b) (hk : ∀ b, F b → w'.heap[b]? = w.heap[b]?) (h : RRow sz R F w l a) : RRow sz R F' w' l a := fun i hi => by
  obtain ⟨b, off, cs, e, hb, hr, hc⟩ := h i hi
  exact ⟨b, off, cs, e, hF b hb, g.keep hF hk hr, fun j u hu => cell_kept (hk b hb) (hc j u hu)⟩
theorem good_slice (g : Good sz R) : Good 1 (RS sz R) := by
  refine ⟨fun hF hk _ _ h => ?_, fun h => ?_, fun h => ?_⟩
  · obtain ⟨a, cap, e, h1, h2, h3⟩ := h
    exact ⟨a, cap, e, h1, h2, h3.keep g hF hk⟩
  · obtain ⟨a, cap, e, _⟩ := h; rw [e]; rfl
  · obtain ⟨a, cap, e, _⟩ := h; rw [e]; simp [Value.oneCell']
theorem good_pair {s1 s2 : Nat} {S : RepT β} (g : Good s1 R) (g2 : Good s2 S) : Good (s1 + s2) (RP R S) := by
  refine ⟨fun hF hk _ _ h => ?_, fun h => ?_, fun h => ?_⟩
  · obtain ⟨c1, c2, e, h1, h2⟩ := h
    exact ⟨c1, c2, e, g.keep hF hk h1, g2.keep hF hk h2⟩
  · obtain ⟨c1, c2, e, h1, h2⟩ := h
    rw [e, List.length_append, g.len h1, g2.len h2]
  · obtain ⟨c1, c2, e, h1, h2⟩ := h
    rw [e]
    intro u hu
    rcases List.mem_append.1 hu with hu | hu
    · exact g.one h1 u hu
    · exact g2.one h2 u hu
theorem good_map {f : β → α} (g : Good sz R) : Good sz (RM f R) := ⟨fun hF hk _ _ h => g.keep hF hk h, fun h => g.len h, fun h => g.one h⟩

/-- as it lies now -/
abbrev Row (sz : Nat) (R : RepT α) (w : World) (l : List α) (a : Option Addr) : Prop := RRow sz R (Now w) w l a
theorem now_below (hb : Below w.heap.size w w') : (∀ b, Now w b → Now w' b) ∧ (∀ b, Now w b → w'.heap[b]? = w.heap[b]?) :=
  ⟨fun _ h => Nat.lt_of_lt_of_le h hb.size, fun b h => hb.block b h⟩
theorem Good.below (g : Good sz R) {x : α} {cs : List Value} (hb : Below w.heap.size w w') (h : R (Now w) w x cs) : R (Now w') w' x cs := g.keep (now_below hb).1 (now_below hb).2 h
theorem Good.belowF (g : Good sz R) {x : α} {cs : List Value} (hF : ∀ b, F b → b < w.heap.size) (hb : Below w.heap.size w w') (h : R F w x cs) : R F w' x cs := g.keep (fun _ h => h) (fun b hb' => hb.block b (hF b hb')) h
theorem RRow.below (g : Good sz R) (hb : Below w.heap.size w w') (h : Row sz R w l a) : Row sz R w' l a := h.keep g (now_below hb).1 (now_below hb).2
theorem RRow.nil (a : Option Addr) : RRow sz R F w ([] : List α) a := fun i h => by cases h
theorem RRow.take (h : RRow sz R F w l a) (n : Nat) : RRow sz R F w (l.take n) a := fun i hi => by
  have hi' : i < l.length := by rw [List.length_take] at hi; omega
  obtain ⟨b, off, cs, e, hb, hr, hc⟩ := h i hi'
  exact ⟨b, off, cs, e, hb, by rw [List.getElem_take]; exact hr, hc⟩
theorem RRow.tail_ {b off n : Nat} (h : RRow sz R F w l (some ⟨b, off, none⟩)) : RRow sz R F w (l.drop n) (some ⟨b, off + n * sz, none⟩) := fun i hi => by
  have hi' : n + i < l.length := by rw [List.length_drop] at hi; omega
  obtain ⟨b', off', cs, e, hb, hr, hc⟩ := h (n + i) hi'
  cases e
  refine ⟨_, _, cs, rfl, hb, by rw [List.getElem_drop]; exact hr, fun j u hu => ?_⟩
  have := hc j u hu
  rw [Nat.add_mul, ← Nat.add_assoc] at this
  exact this
/-- the address of s[n:] -/
def cutA (a : Option Addr) (cap n sz : Nat) : Option Addr := if cap = n then a else a.map (·.add (n * sz))
theorem RRow.drop {cap : Nat} (h : RRow sz R F w l a) (hcap : l.length ≤ cap) (n : Nat) : RRow sz R F w (l.drop n) (cutA a cap n sz) := by
  by_cases hn : l.length ≤ n
  · rw [List.drop_eq_nil_of_le hn]; exact RRow.nil _
  · obtain ⟨b, off, cs, e, _⟩ := h 0 (by omega)
    subst e
    have : cutA (some ⟨b, off, none⟩) cap n sz = some ⟨b, off + n * sz, none⟩ := by
      unfold cutA
      rw [if_neg (by omega)]
      simp [Addr.add]
    rw [this]
    exact h.tail_
theorem RRow.some_of (h : RRow sz R F w l a) (hp : 0 < l.length) : ∃ b off, a = some ⟨b, off, none⟩ := by
  obtain ⟨b, off, cs, e, _⟩ := h 0 hp
  exact ⟨b, off, e⟩
theorem RRow.mono (g : Good sz R) (hF : ∀ b, F b → F' b) (h : RRow sz R F w l a) : RRow sz R F' w l a := h.keep g hF (fun _ _ => rfl)

/-- the cells of a list, one datum's behind the other's -/
def CellsL (R : RepT α) (F : Nat → Prop) (w : World) : List α → List Value → Prop
  | [], xs => xs = []
  | x :: l, xs => ∃ c ys, xs = c ++ ys ∧ R F w x c ∧ CellsL R F w l ys
theorem CellsL.keep (g : Good sz R) (hF : ∀ b, F b → F' b) (hk : ∀ b, F b → w'.heap[b]? = w.heap[b]?) : ∀ {l : List α} {xs : List Value}, CellsL R F w l xs → CellsL R F' w' l xs
  | [], _, h => h
  | _ :: _, _, ⟨c, ys, e, h1, h2⟩ => ⟨c, ys, e, g.keep hF hk h1, CellsL.keep g hF hk h2⟩
theorem CellsL.append : ∀ {l m : List α} {xs ys : List Value}, CellsL R F w l xs → CellsL R F w m ys → CellsL R F w (l ++ m) (xs ++ ys)
  | [], _, _, _, h, h2 => by cases h; exact h2
  | _ :: _, _, _, _, ⟨c, zs, e, h1, h2⟩, h3 => ⟨c, zs ++ _, by rw [e, List.append_assoc], h1, CellsL.append h2 h3⟩
theorem CellsL.single {x : α} {cs : List Value} (h : R F w x cs) : CellsL R F w [x] cs := ⟨cs, [], by simp, h, rfl⟩
theorem CellsL.len (g : Good sz R) : ∀ {l : List α} {xs : List Value}, CellsL R F w l xs → xs.length = l.length * sz
  | [], _, h => by cases h; simp
  | _ :: _, _, ⟨c, zs, e, h1, h2⟩ => by rw [e, List.length_append, g.len h1, CellsL.len g h2, List.length_cons, Nat.add_mul, Nat.one_mul, Nat.add_comm]
theorem CellsL.one (g : Good sz R) : ∀ {l : List α} {xs : List Value}, CellsL R F w l xs → ∀ u ∈ xs, u.oneCell' = true
  | [], _, h => by cases h; simp
  | _ :: _, _, ⟨c, zs, e, h1, h2⟩ => by
    rw [e]
    intro u hu
    rcases List.mem_append.1 hu with hu | hu
    · exact g.one h1 u hu
    · exact CellsL.one g h2 u hu
/-- out of its cells, a row -/
theorem CellsL.row (g : Good sz R) {b : Nat} (hb : F b) : ∀ {l : List α} {xs : List Value} {off : Nat}, CellsL R F w l xs → (∀ j u, xs[j]? = some u → w.cell? ⟨b, off + j, none⟩ = some u) → RRow sz R F w l (some ⟨b, off, none⟩)
  | [], _, _, _, _ => RRow.nil _
  | x :: l, xs, off, ⟨c, ys, e, h1, h2⟩, hc => by
    have hl := g.len h1
    have ih := CellsL.row (off := off + sz) g hb h2 (fun j u hu => by
      have := hc (sz + j) u (by rw [e, List.getElem?_append_right (by omega), hl]; simpa using hu)
      rwa [← Nat.add_assoc] at this)
    intro i hi
    cases i with
    | zero =>
      refine ⟨b, off, c, rfl, hb, h1, fun j u hu => ?_⟩
      have := hc j u (by rw [e, List.getElem?_append_left (by have := (List.getElem?_eq_some_iff.1 hu).1; omega)]; exact hu)
      simpa using this
    | succ i =>
      obtain ⟨b', off', cs, e', hb', hr, hcs⟩ := ih i (by simpa using hi)
      cases e'
      refine ⟨b, off, cs, rfl, hb, by simpa using hr, fun j u hu => ?_⟩
      have := hcs j u hu
      rw [show off + (i + 1) * sz + j = off + sz + i * sz + j by rw [Nat.add_mul]; omega]
      exact this
/-- out of a row, its cells -/
theorem RRow.cells {b off : Nat} (g : Good sz R) : ∀ {l : List α} {off : Nat}, RRow sz R F w l (some ⟨b, off, none⟩) → ∃ xs, CellsL R F w l xs ∧ ∀ j u, xs[j]? = some u → w.cell? ⟨b, off + j, none⟩ = some u
  | [], _, _ => ⟨[], rfl, fun j u h => by simp at h⟩
  | x :: l, off, h => by
    obtain ⟨b', off', cs, e, hb, hr, hc⟩ := h 0 (by simp)
    cases e
    have ht := h.tail_ (n := 1)
    simp only [List.drop_succ_cons, List.drop_zero, Nat.one_mul] at ht
    obtain ⟨xs, h1, h2⟩ := RRow.cells (off := off) g ht
    have hl := g.len hr
    refine ⟨cs ++ xs, ⟨cs, xs, rfl, by simpa using hr, h1⟩, fun j u hu => ?_⟩
    by_cases hj : j < cs.length
    · rw [List.getElem?_append_left hj] at hu
      simpa using hc j u hu
    · rw [List.getElem?_append_right (by omega)] at hu
      have := h2 _ u hu
      rw [show off + sz + (j - cs.length) = off + j by omega] at this
      exact this

/-- the blocks that are not the row's own -/
def Off (w : World) (v : Value) : Nat → Prop := fun b => b < w.heap.size ∧ v.ownBlock ≠ some b
/-- a row of the call's own that reads as a list -/
def OwnL (R : RepT α) (sz : Nat) (e : TypeId) (base : Nat) (w : World) (v : Value) (l : List α) : Prop := ∃ xs, w.ownsRow base e sz v l.length xs ∧ CellsL R (Off w v) w l xs
theorem OwnL.nil (e : TypeId) (base : Nat) (w : World) : OwnL R sz e base w (.slice none 0 0) ([] : List α) := ⟨[], World.ownsRow_nil .., rfl⟩
theorem grown_of (hb : Below w.heap.size w w') : w.grownBy w' none := ⟨hb.os, hb.tape, hb.output, hb.size, fun k hk _ => hb.block k hk⟩
theorem own_later {base : Nat} {e : TypeId} {size : Nat} {v : Value} {n : Nat} {xs : List Value} (h : w.ownsRow base e size v n xs) (hb : Below w.heap.size w w') : w'.ownsRow base e size v n xs := by
  refine h.kept (grown_of hb) ?_
  cases v.ownBlock with
  | none => exact .inl rfl
  | some g => exact .inr (by simp)
theorem OwnL.below (g : Good sz R) {e : TypeId} {base : Nat} {v : Value} (h : OwnL R sz e base w v l) (hb : Below w.heap.size w w') : OwnL R sz e base w' v l := by
  obtain ⟨xs, h1, h2⟩ := h
  exact ⟨xs, own_later h1 hb, h2.keep g (fun b hb' => ⟨Nat.lt_of_lt_of_le hb'.1 hb.size, hb'.2⟩) (fun b hb' => hb.block b hb'.1)⟩
theorem own_form {base : Nat} {e : TypeId} {size : Nat} {v : Value} {n : Nat} {xs : List Value} (h : w.ownsRow base e size v n xs) : ∃ a cap, v = .slice a n cap ∧ n ≤ cap := by
  rcases h.2 with ⟨rfl, rfl⟩ | ⟨g, cap, cur, rfl, _, _, h4, _⟩
  · exact ⟨_, _, rfl, Nat.le_refl _⟩
  · exact ⟨_, _, rfl, h4⟩
theorem OwnL.row (g : Good sz R) {e : TypeId} {base : Nat} {v : Value} (h : OwnL R sz e base w v l) : ∃ a cap, v = .slice a l.length cap ∧ l.length ≤ cap ∧ Row sz R w l a ∧ ∀ ad, a = some ad → base ≤ ad.block ∧ ad.block < w.heap.size := by
  obtain ⟨xs, h1, h2⟩ := h
  have hlt := h1.lt
  have hcells := fun g hg => h1.cells (g := g) hg
  rcases h1.2 with ⟨hv, hn⟩ | ⟨gb, cap, cur, hv, _, _, h4, _⟩
  · have : l = [] := List.eq_nil_of_length_eq_zero hn
    subst this
    exact ⟨none, 0, hv, Nat.le_refl _, RRow.nil _, fun ad h => by cases h⟩
  · have ho : v.ownBlock = some gb := by rw [hv]; rfl
    refine ⟨_, cap, hv, h4, ?_, fun ad h => by cases h; exact hlt gb ho⟩
    have hcl := h2.keep (F' := Now w) (w' := w) g (fun b hb => hb.1) (fun _ _ => rfl)
    have hgb : Now w gb := (hlt gb ho).2
    refine hcl.row g hgb (fun j u hu => ?_)
    have := hcells gb ho j u hu
    rw [Nat.zero_add]
    by_cases hj : j = 0
    · subst hj; simpa [Addr.add] using this
    · simpa [Addr.add, hj] using this
theorem Grew.offs {base : Nat} {e : TypeId} {size : Nat} {v v' : Value} {n : Nat} {xs : List Value} (hg : Grew base e size w v v' n xs w') : (∀ b, Off w v b → Off w' v' b) ∧ (∀ b, Off w v b → w'.heap[b]? = w.heap[b]?) := by
  refine ⟨fun b hb => ⟨Nat.lt_of_lt_of_le hb.1 hg.by_.size, fun e => ?_⟩, fun b hb => hg.other hb.1 hb.2⟩
  rcases hg.new b e with h | h
  · have := hb.1; omega
  · exact hb.2 h
theorem OwnL.grew (g : Good sz R) {e : TypeId} {base : Nat} {v v' : Value} {m : List α} {xs news : List Value} (h2 : CellsL R (Off w v) w l xs) (h3 : CellsL R (Off w v) w m news)
    (hg : Grew base e sz w v v' (l.length + m.length) (xs ++ news) w') : OwnL R sz e base w' v' (l ++ m) := by
  refine ⟨xs ++ news, by rw [List.length_append]; exact hg.own, CellsL.append (h2.keep g hg.offs.1 hg.offs.2) (h3.keep g hg.offs.1 hg.offs.2)⟩
/-- another row of the call's own, while this one grows -/
theorem OwnL.other (g : Good sz R) {e e' : TypeId} {size' : Nat} {base : Nat} {v u u' : Value} {n : Nat} {ys : List Value} (h : OwnL R sz e base w v l) (hg : Grew base e' size' w u u' n ys w')
    (hne : ∀ b, u.ownBlock = some b → v.ownBlock ≠ some b) (hF : ∀ xs, CellsL R (Off w v) w l xs → CellsL R (fun b => Off w v b ∧ u.ownBlock ≠ some b) w l xs) : OwnL R sz e base w' v l := by
  obtain ⟨xs, h1, h2⟩ := h
  refine ⟨xs, h1.kept hg.by_ ?_, (hF xs h2).keep g (fun b hb => ⟨Nat.lt_of_lt_of_le hb.1.1 hg.by_.size, hb.1.2⟩) (fun b hb => hg.other hb.1.1 hb.2)⟩
  cases e4 : v.ownBlock with
  | none => exact .inl rfl
  | some g => exact .inr fun e => hne g e.symm e4
/-- a row as what is appended -/
theorem Source.row {P : Program} {t : TypeId} (g : Good sz R) {cap : Nat} (h : RRow sz R F w l a) : ∃ news, Source P t t sz w (.slice a l.length cap) l.length news ∧ CellsL R F w l news := by
  cases a with
  | none =>
    have hl : l = [] := by
      cases l with
      | nil => rfl
      | cons x l => obtain ⟨b, off, cs, e, _⟩ := h 0 (by simp); cases e
    subst hl
    exact ⟨[], Source.nil rfl, rfl⟩
  | some ad =>
    cases l with
    | nil => exact ⟨[], Source.cells _ _ _ _ rfl (by simp) (fun j u h => by simp at h) (by simp), rfl⟩
    | cons x l =>
      obtain ⟨b, off, cs, e, _⟩ := h 0 (by simp)
      cases e
      obtain ⟨xs, h1, h2⟩ := RRow.cells (off := off) (b := b) g h
      refine ⟨xs, Source.cells _ _ _ _ rfl (h1.len g) (fun j u hu => ?_) (h1.one g), h1⟩
      have := h2 j u hu
      by_cases hj : j = 0
      · subst hj; simpa [Addr.add] using this
      · simpa [Addr.add, hj] using this
end
/-- what a call hands back that makes memory alone -/
def Gives (v : Value) (w : World) (e : Ending) (w' : World) : Prop := e = .returned v ∧ Below w.heap.size w w'
theorem below_cell {w w' : World} (hb : Below w.heap.size w w') {a : Addr} {v : Value} (h : w.cell? a = some v) : w'.cell? a = some v := (hb.cell (World.block_lt_of_cell? _ _ h)).trans h
theorem ret_bool {a b : Bool} (h : a = b) : Ending.returned (.bool a) = .returned (.bool b) := by rw [h]
theorem ret_int {k : IntKind} {a b : Int} (h : a = b) : Ending.returned (.int k a) = .returned (.int k b) := by rw [h]
def i64R (n : Int) : Prop := -9223372036854775808 ≤ n ∧ n ≤ 9223372036854775807
theorem wf_i64 {n : Int} (h : (Lit.int .i64 n).wf = true) : i64R n := by
  have : -9223372036854775808 ≤ n ∧ n ≤ 9223372036854775807 := by simpa [Lit.wf, IntKind.min, IntKind.max, IntKind.signed, IntKind.bits] using h
  exact this
theorem i64_wf {n : Int} (h : i64R n) : (Lit.int .i64 n).wf = true := WalkArith.wf_i64 h
/-- a world that comes later -/
structure Later (w : World) where
  W : World
  by_ : Below w.heap.size w W
instance laterInh (w : World) : Inhabited (Later w) := ⟨⟨w, Below.refl _ _⟩⟩
theorem wp_region_later {P : Program} {id : Nat} {Q : Exit → Act → World → Prop} {a : Act} {w : World} {l : List Oper} (hm : P.follows .mixedOrders = true) (hB : Region.lexB .any l.toArray = true)
    (h : wpQuiet P l.toArray (fun w' => ∃ p : Later w, w' = p.W) (fun a' => ∀ w', (∃ p : Later w, w' = p.W) → Q .normal a' w') l a) : (Code.region id l.toArray true).wp P Q a w :=
  wp_region_quiet (C := fun w' => ∃ p : Later w, w' = p.W) hm hB ⟨⟨w.drew, (Below.refl _ _).drew⟩, rfl⟩ (by simpa using h)
theorem later_of {P : Program} {f : FuncId} {args : Array Value} {w : World} {v : Value} (p : Later w) (h : Calls P f args p.W (Gives v p.W)) : Calls P f args p.W fun e w'' => e = .returned v ∧ ∃ q : Later w, w'' = q.W :=
  h.mono fun _ _ ⟨he, hb⟩ => ⟨he, ⟨_, p.by_.trans (hb.mono p.by_.size)⟩, rfl⟩
theorem Later.cell {w : World} (p : Later w) {b o : Nat} {v : Value} (h : w.cell? ⟨b, o, none⟩ = some v) : p.W.cell? ⟨b, o, none⟩ = some v := below_cell p.by_ h
theorem below_drewN {B : Nat} {a w : World} (h : Below B a w) (n : Nat) : Below B a (w.drewN n) := ⟨h.os, h.tape, h.output, h.size, h.block⟩
/-- a variable of the call's own: a block, whole -/
def Box (w : World) (b : Nat) (cs : Array Value) (t : TypeId) : Prop := w.heap[b]? = some (.cells cs t (0, 0))
section
variable {w w' : World} {b : Nat} {cs : Array Value} {t : TypeId}
theorem Box.cell (h : Box w b cs t) (o : Nat) {v : Value} (hv : cs[o]? = some v) : w.cell? ⟨b, o, none⟩ = some v := by
  unfold Box at h; simp [World.cell?, h, hv]
theorem Box.free (h : Box w b cs t) (o : Nat) : w.frozen? ⟨b, o, none⟩ = false := by
  unfold Box at h; simp [World.frozen?, h]
theorem Box.lt (h : Box w b cs t) : b < w.heap.size := (Array.getElem?_eq_some_iff.1 h).1
theorem Box.below (h : Box w b cs t) (hb : Below w.heap.size w w') : Box w' b cs t := (hb.block b h.lt).trans h
theorem Box.new (w : World) (cs : Array Value) (t : TypeId) : Box (w.alloc (.cells cs t)) w.heap.size cs t := heap_alloc_new w _
theorem Box.alloc (h : Box w b cs t) (o : Obj) : Box (w.alloc o) b cs t := h.below ((Below.refl _ _).alloc (Nat.le_refl _) _)
theorem Box.drew (h : Box w b cs t) : Box w.drew b cs t := h
theorem Box.drewN (h : Box w b cs t) (n : Nat) : Box (w.drewN n) b cs t := h
theorem Box.other (h : Box w b cs t) {b' o : Nat} (hne : b ≠ b') (v : Value) : Box (w.setCell ⟨b', o, none⟩ v) b cs t := by
  unfold Box at h ⊢
  rw [Below.heap_setCell w ⟨b', o, none⟩ v b hne]
  exact h
theorem Box.set (h : Box w b cs t) (o : Nat) (v : Value) : Box (w.setCell ⟨b, o, none⟩ v) b (cs.setIfInBounds o v) t := heap_setCell_same w b o cs t v h
end
end Go.Proofs.Ytmlhpchabnajkaa
