/- append to a row that has no room: what comes out lies in a new block, or nothing was appended -/
import Derived.Test.YtmlhpchabnajkaaGrow
import Derived.Deep.RegionLawGrows
import Derived.ArgAppend
namespace Go.Proofs.Ytmlhpchabnajkaa
set_option linter.unusedSimpArgs false
set_option linter.unusedVariables false
open Go.RowKit
section
variable {P : Program}
theorem run_append_zero (w : World) {t ty e : TypeId} {i : TypeInfo} (ht : P.underlying t = some (.slice e)) (hi : P.info? e = some i) (ao : Option Addr) (n cap : Nat) (xo : Option Addr) (c : Nat) (h : n ≤ cap) (hn : ao = none → n = 0 ∧ cap = 0) :
    (Builtin.append_ #[t, t] ty #[.slice ao n cap, .slice xo 0 c]).run P w = .ok (.slice ao n cap) w := by
  cases ao with
  | none =>
    obtain ⟨rfl, rfl⟩ := hn rfl
    cases xo with
    | none => simp [Builtin.append_, run_underlying ht, sizeOf, typeInfo, hi, Builtin.lenOf, Builtin.firstCells]
    | some ad =>
      have hf := run_firstCells_some (P := P) w i.size 0 ad 0 c [] (by simp) (fun j u h => by simp at h)
      simp [Builtin.append_, run_underlying ht, sizeOf, typeInfo, hi, Builtin.lenOf, hf]
  | some b =>
    cases xo with
    | none => simp [Builtin.append_, run_underlying ht, sizeOf, typeInfo, hi, Builtin.lenOf, Builtin.firstCells, h, storeCells]
    | some ad =>
      have hf := run_firstCells_some (P := P) w i.size 0 ad 0 c [] (by simp) (fun j u h => by simp at h)
      simp [Builtin.append_, run_underlying ht, sizeOf, typeInfo, hi, Builtin.lenOf, hf, h, storeCells]
/-- what an append to a full row leaves -/
structure Full (F : Nat → Prop) (w : World) (xs : List Value) (n : Nat) (v : Value) (w' : World) : Prop where
  by_ : Below w.heap.size w w'
  form : ∃ ao cap, v = .slice ao n cap ∧ n ≤ cap ∧ (ao = none → n = 0 ∧ cap = 0) ∧ ∀ j u, xs[j]? = some u → ∃ b off, ao = some ⟨b, off, none⟩ ∧ F b ∧ b < w'.heap.size ∧ w'.cell? ⟨b, off + j, none⟩ = some u
theorem grown_below {w w' : World} (h : w.grownBy w' none) : Below w.heap.size w w' := ⟨h.os, h.tape, h.output, h.size, fun k hk => h.block k hk (by simp)⟩
theorem own_full {F : Nat → Prop} {w w' : World} {base : Nat} {e : TypeId} {size n : Nat} {v : Value} {xs : List Value} (h : w'.ownsRow base e size v n xs) (hb : Below w.heap.size w w') (hF : ∀ b, base ≤ b → F b) : Full F w xs n v w' := by
  refine ⟨hb, ?_⟩
  have hlt := h.lt
  have hcells := fun g hg => h.cells (g := g) hg
  rcases h.2 with ⟨hv, hn⟩ | ⟨gb, cap, cur, hv, _, _, h4, _⟩
  · have hx : xs = [] := List.eq_nil_of_length_eq_zero (by rw [h.1, hn]; simp)
    subst hx hn
    exact ⟨none, 0, hv, Nat.le_refl _, fun _ => ⟨rfl, rfl⟩, fun j u hu => by simp at hu⟩
  · have ho : v.ownBlock = some gb := by rw [hv]; rfl
    refine ⟨_, cap, hv, h4, fun e => (by cases e), fun j u hu => ⟨gb, 0, rfl, hF gb (hlt gb ho).1, (hlt gb ho).2, ?_⟩⟩
    have := hcells gb ho j u hu
    rw [Nat.zero_add]
    by_cases hj : j = 0
    · subst hj; simpa [Addr.add] using this
    · simpa [Addr.add, hj] using this
theorem run_append_full (F : Nat → Prop) (w : World) {t ty e : TypeId} {z : Value} {size bytes : Nat} (E : Elem P t e z size bytes) (ao : Option Addr) (n cap : Nat) (olds : List Value) (hcap : cap = n) (hnone : ao = none → n = 0) (hlo : olds.length = n * size)
    (holds : ∀ j u, olds[j]? = some u → ∃ b off, ao = some ⟨b, off, none⟩ ∧ F b ∧ b < w.heap.size ∧ w.cell? ⟨b, off + j, none⟩ = some u) (hF : ∀ b, w.heap.size ≤ b → F b)
    (xv : Value) (m : Nat) (news : List Value) (hS : Source P t t size w xv m news) (b1 : n + m ≤ maxLen) (b2 : (n + m) * bytes ≤ 140737488355328) :
    ∃ v' w', (Builtin.append_ #[t, t] ty #[.slice ao n cap, xv]).run P w = .ok v' w' ∧ Full F w (olds ++ news) (n + m) v' w' := by
  subst hcap
  obtain ⟨i, hi, hz, hsz, hby⟩ := info_parts E.info
  have hzero : ∀ xo c, (∃ v' w', (Builtin.append_ #[t, t] ty #[.slice ao cap cap, .slice xo 0 c]).run P w = .ok v' w' ∧ Full F w (olds ++ []) (cap + 0) v' w') := fun xo c => by
    refine ⟨_, _, run_append_zero w E.ht hi ao cap cap xo c (Nat.le_refl _) (fun h => ⟨hnone h, hnone h⟩), Below.refl _ _, ao, cap, rfl, Nat.le_refl _, fun h => ⟨hnone h, hnone h⟩, fun j u hu => ?_⟩
    rw [List.append_nil] at hu
    exact holds j u hu
  have holds' : ∀ ad, ao = some ad → ∀ j u, olds[j]? = some u → w.cell? (ad.add j) = some u := fun ad e j u hu => by
    obtain ⟨b, off, e', _, _, hc⟩ := holds j u hu
    rw [e'] at e
    cases e
    by_cases hj : j = 0
    · subst hj; simpa [Addr.add] using hc
    · simpa [Addr.add, hj] using hc
  rcases hS with ⟨ad, c, rfl, _, hl, hnews, h1⟩ | ⟨⟨c, rfl⟩, rfl, rfl, _⟩ | ⟨s, rfl, rfl, rfl, hu, h1⟩
  · by_cases hm : m = 0
    · subst hm
      have : news = [] := List.eq_nil_of_length_eq_zero (by simpa using hl)
      subst this
      exact hzero _ _
    · cases ao with
      | none =>
        have hn := hnone rfl
        subst hn
        have : olds = [] := List.eq_nil_of_length_eq_zero (by simpa using hlo)
        subst this
        obtain ⟨v', w', hrun, r1, r2, _⟩ := run_append_own (P := P) w w.heap.size t ty e i z size bytes E.ht hi hz hsz hby E.hzs E.pos (.slice none 0 0) 0 [] (World.ownsRow_nil w _ e size) ad m c news hl hnews h1 b1 b2 (Nat.le_refl _)
        exact ⟨v', w', hrun, own_full r1 (grown_below r2) hF⟩
      | some b =>
        obtain ⟨v', w', hrun, r1, r2⟩ := run_append_arg_grows (P := P) w t ty e i z size bytes E.ht hi hz hsz hby E.hzs E.pos b cap cap olds hlo (holds' b rfl) ad m c news hl hnews (by omega) b1 b2
        exact ⟨v', w', hrun, own_full r1 (grown_below r2) hF⟩
  · exact hzero _ _
  · exfalso
    rw [E.ht] at hu
    cases hu
section
variable {w : World} {a : Act} {ops : Array Oper} {rest : List Oper} {o : Oper} {Q : Exit → Act → World → Prop}
theorem wpList_full {F : Nat → Prop} (hgd : o.guard = none) (s x : Operand) {t e : TypeId} {z : Value} {size bytes : Nat} (ho : o.op = .call { callee := .builtin .append, args := #[s, x], argTypes := #[t, t] }) (E : Elem P t e z size bytes)
    (ao : Option Addr) (n cap : Nat) (olds : List Value) (hs : a.eval s = .slice ao n cap) (hcap : cap = n) (hnone : ao = none → n = 0) (hlo : olds.length = n * size)
    (holds : ∀ j u, olds[j]? = some u → ∃ b off, ao = some ⟨b, off, none⟩ ∧ F b ∧ b < w.heap.size ∧ w.cell? ⟨b, off + j, none⟩ = some u) (hF : ∀ b, w.heap.size ≤ b → F b)
    (xv : Value) (m : Nat) (news : List Value) (hx : a.eval x = xv) (hS : Source P t t size w xv m news) (b1 : n + m ≤ maxLen) (b2 : (n + m) * bytes ≤ 140737488355328)
    (h : ∀ v' w', Full F w (olds ++ news) (n + m) v' w' → wpList P ops Q rest (a.put o.dst v') w') : wpList P ops Q (o :: rest) a w := by
  refine wpList_plain hgd fun _ hK => ?_
  obtain ⟨v', w', hr, h2⟩ := run_append_full (P := P) F w (ty := o.type) E ao n cap olds hcap hnone hlo holds hF xv m news hS b1 b2
  unfold Oper.wp execOp
  simp only [ho, resolve, invoke, builtin, Sem.run_bind, Sem.run_pure, Result.andThen_ok, List.map_toArray, List.map_cons, List.map_nil, hs, hx, hr]
  exact hK _ _ (h v' w' h2)
theorem step_full {F : Nat → Prop} {K : Act → World → Prop} {E' : Prop} (hgd : o.guard = none) (s x : Operand) {t e : TypeId} {z : Value} {size bytes : Nat} (ho : o.op = .call { callee := .builtin .append, args := #[s, x], argTypes := #[t, t] }) (E : Elem P t e z size bytes)
    (ao : Option Addr) (n cap : Nat) (olds : List Value) (hs : a.eval s = .slice ao n cap) (hcap : cap = n) (hnone : ao = none → n = 0) (hlo : olds.length = n * size)
    (holds : ∀ j u, olds[j]? = some u → ∃ b off, ao = some ⟨b, off, none⟩ ∧ F b ∧ b < w.heap.size ∧ w.cell? ⟨b, off + j, none⟩ = some u) (hF : ∀ b, w.heap.size ≤ b → F b)
    (xv : Value) (m : Nat) (news : List Value) (hx : a.eval x = xv) (hS : Source P t t size w xv m news) (b1 : n + m ≤ maxLen) (b2 : (n + m) * bytes ≤ 140737488355328)
    (h : ∀ v' w', Full F w (olds ++ news) (n + m) v' w' → K (a.put o.dst v') w') :
    if Region.wanted o (yielded ops a.tmps) = true then Oper.wp P o a w K Q else E' := by
  have hw : Region.wanted o (yielded ops a.tmps) = true := by simp [Region.wanted, hgd]
  rw [if_pos hw]
  obtain ⟨v', w', hr, h2⟩ := run_append_full (P := P) F w (ty := o.type) E ao n cap olds hcap hnone hlo holds hF xv m news hS b1 b2
  unfold Oper.wp execOp
  simp only [ho, resolve, invoke, builtin, Sem.run_bind, Sem.run_pure, Result.andThen_ok, List.map_toArray, List.map_cons, List.map_nil, hs, hx, hr]
  exact h v' w' h2
end
variable {α : Type} {sz : Nat} {R : RepT α}
/-- the blocks of a kind that there are -/
def InF (F : Nat → Prop) (w : World) : Nat → Prop := fun b => F b ∧ b < w.heap.size
theorem inF_below {F : Nat → Prop} {w w' : World} (hb : Below w.heap.size w w') : (∀ b, InF F w b → InF F w' b) ∧ (∀ b, InF F w b → w'.heap[b]? = w.heap[b]?) :=
  ⟨fun b h => ⟨h.1, Nat.lt_of_lt_of_le h.2 hb.size⟩, fun b h => hb.block b h.2⟩
/-- a row, as the cells of an append's first operand -/
theorem RRow.olds {F : Nat → Prop} {w : World} {l : List α} {a : Option Addr} (g : Good sz R) (h : RRow sz R (InF F w) w l a) :
    ∃ xs, CellsL R (InF F w) w l xs ∧ ∀ j u, xs[j]? = some u → ∃ b off, a = some ⟨b, off, none⟩ ∧ F b ∧ b < w.heap.size ∧ w.cell? ⟨b, off + j, none⟩ = some u := by
  cases l with
  | nil => exact ⟨[], rfl, fun j u hu => by simp at hu⟩
  | cons x l =>
    obtain ⟨b, off, cs, e, hb, _⟩ := h 0 (by simp)
    subst e
    obtain ⟨xs, h1, h2⟩ := RRow.cells (off := off) (b := b) g h
    exact ⟨xs, h1, fun j u hu => ⟨b, off, rfl, hb.1, hb.2, h2 j u hu⟩⟩
/-- what came out, as a row -/
theorem Full.row {F : Nat → Prop} {w w' : World} {l : List α} {xs : List Value} {v : Value} (g : Good sz R) (hpos : 0 < sz) (hf : Full F w xs l.length v w') (h : CellsL R (InF F w) w l xs) : ∃ ao cap, v = .slice ao l.length cap ∧ l.length ≤ cap ∧ (ao = none → l.length = 0 ∧ cap = 0) ∧ RRow sz R (InF F w') w' l ao := by
  obtain ⟨ao, cap, hv, h1, h2, h3⟩ := hf.form
  refine ⟨ao, cap, hv, h1, h2, ?_⟩
  have hcl := h.keep (F' := InF F w') (w' := w') g (inF_below hf.by_).1 (inF_below hf.by_).2
  cases l with
  | nil => exact RRow.nil _
  | cons x l =>
    cases hx : xs with
    | nil =>
      have h9 := h.len g
      rw [hx, List.length_cons, Nat.add_mul] at h9
      simp at h9
      omega
    | cons u us =>
      obtain ⟨b, off, e, hF, hb, _⟩ := h3 0 u (by rw [hx]; rfl)
      subst e
      have hnb : InF F w' b := ⟨hF, hb⟩
      refine hcl.row g hnb (fun j u hu => ?_)
      obtain ⟨b', off', e, _, _, hc⟩ := h3 j u hu
      cases e
      exact hc
/-- what the heavy operations of a region leave, by their numbers -/
def tbl : List (Nat × (Value → World → Prop)) → Nat → Value → World → Prop
  | [], _ => fun _ _ => True
  | e :: l, k => if k = e.1 then e.2 else tbl l k
def hvOf : List (Nat × List Nat) → Nat → Option (List Nat)
  | [], _ => none
  | e :: l, k => if k = e.1 then some e.2 else hvOf l k
def StableV (A : Value → World → Prop) : Prop := ∀ {v : Value} {W W' : World}, LeB W W' → A v W → A v W'
theorem lawful_nil : Lawful LeB (tbl []) := lawfulB fun _ _ => trivial
theorem lawful_cons {i : Nat} {A : Value → World → Prop} {l : List (Nat × (Value → World → Prop))} (hA : StableV A) (hl : Lawful LeB (tbl l)) : Lawful LeB (tbl ((i, A) :: l)) := lawfulB fun {k v W W'} h h1 => by
  unfold tbl at h1 ⊢
  split
  · rename_i e; rw [if_pos e] at h1; exact hA h h1
  · rename_i e; rw [if_neg e] at h1; exact hl.stable h h1
/-- a block of its own, as a slice of one element -/
def OneAt (cs : Array Value) (t : TypeId) (n : Nat) (v : Value) (W : World) : Prop := ∃ g, v = .slice (some ⟨g, 0, none⟩) n n ∧ Box W g cs t
theorem oneAt_stable (cs : Array Value) (t : TypeId) (n : Nat) : StableV (OneAt cs t n) := fun h ⟨g, e, hb⟩ => ⟨g, e, hb.below h⟩
theorem oneAt_new (W : World) (cs : Array Value) (t : TypeId) (n : Nat) : OneAt cs t n (.slice (some ⟨W.heap.size, 0, none⟩) n n) (W.alloc (.cells cs t)) := ⟨W.heap.size, rfl, Box.new W cs t⟩
theorem OneAt.source {t e : TypeId} {size n : Nat} {cs : Array Value} {v : Value} {W : World} (h : OneAt cs e n v W) (hl : cs.toList.length = n * size) (h1 : ∀ u ∈ cs.toList, u.oneCell' = true) : Source P t t size W v n cs.toList := by
  obtain ⟨g, rfl, hb⟩ := h
  exact Source.cells _ _ _ _ rfl hl (World.news_of_block (cs := cs) (t := e) (fr := (0, 0)) hb) h1
/-- a row as a slice's value; F: in which blocks -/
def RowF {α : Type} (sz : Nat) (R : RepT α) (F : Nat → Prop) (l : List α) (v : Value) (W : World) : Prop := ∃ ao cap, v = .slice ao l.length cap ∧ l.length ≤ cap ∧ (ao = none → l.length = 0 ∧ cap = 0) ∧ RRow sz R (InF F W) W l ao
theorem rowF_stable (g : Good sz R) (F : Nat → Prop) (l : List α) : StableV (RowF sz R F l) := fun h ⟨ao, cap, e, h1, h2, h3⟩ => ⟨ao, cap, e, h1, h2, h3.keep g (inF_below h).1 (inF_below h).2⟩
theorem isVal_stable (u : Value) : StableV (fun v _ => v = u) := fun _ h => h
theorem grow_full {F : Nat → Prop} {a : Act} {o : Oper} {W : World} {Φ : Value → World → Prop} (s x : Operand) {t e : TypeId} {z : Value} {size bytes : Nat} (ho : o.op = .call { callee := .builtin .append, args := #[s, x], argTypes := #[t, t] }) (E : Elem P t e z size bytes)
    (ao : Option Addr) (n cap : Nat) (olds : List Value) (hs : a.eval s = .slice ao n cap) (hcap : cap = n) (hnone : ao = none → n = 0) (hlo : olds.length = n * size)
    (holds : ∀ j u, olds[j]? = some u → ∃ b off, ao = some ⟨b, off, none⟩ ∧ F b ∧ b < W.heap.size ∧ W.cell? ⟨b, off + j, none⟩ = some u) (hF : ∀ b, W.heap.size ≤ b → F b)
    (xv : Value) (m : Nat) (news : List Value) (hx : a.eval x = xv) (hS : Source P t t size W xv m news) (b1 : n + m ≤ maxLen) (b2 : (n + m) * bytes ≤ 140737488355328)
    (h : ∀ v' w', Full F W (olds ++ news) (n + m) v' w' → Φ v' w') : growUpon P LeB Φ W ((execOp a.eval o).run P W) := by
  obtain ⟨v', w', hr, h2⟩ := run_append_full (P := P) F W (ty := o.type) E ao n cap olds hcap hnone hlo holds hF xv m news hS b1 b2
  unfold execOp
  simp only [ho, resolve, invoke, builtin, Sem.run_bind, Sem.run_pure, Result.andThen_ok, List.map_toArray, List.map_cons, List.map_nil, hs, hx, hr]
  exact ⟨h2.by_, h v' w' h2⟩
/-- append to a row that has no room, row by row -/
theorem grow_rows {F : Nat → Prop} {a : Act} {o : Oper} {W : World} (g : Good sz R) (hpos : 0 < sz) (s x : Operand) {t e : TypeId} {z : Value} {bytes : Nat} (ho : o.op = .call { callee := .builtin .append, args := #[s, x], argTypes := #[t, t] }) (E : Elem P t e z sz bytes)
    {l m : List α} (ao : Option Addr) (cap : Nat) (hs : a.eval s = .slice ao l.length cap) (hcap : cap = l.length) (hrow : RRow sz R (InF F W) W l ao) (hF : ∀ b, W.heap.size ≤ b → F b)
    (xv : Value) (news : List Value) (hx : a.eval x = xv) (hS : Source P t t sz W xv m.length news) (hcl : CellsL R (InF F W) W m news) (b1 : l.length + m.length ≤ maxLen) (b2 : (l.length + m.length) * bytes ≤ 140737488355328) :
    growUpon P LeB (RowF sz R F (l ++ m)) W ((execOp a.eval o).run P W) := by
  obtain ⟨xs, h1, h2⟩ := hrow.olds g
  have hnone : ao = none → l.length = 0 := fun h => by
    rcases Nat.eq_zero_or_pos l.length with h0 | h0
    · exact h0
    · obtain ⟨b, off, e⟩ := hrow.some_of h0; rw [h] at e; cases e
  refine grow_full s x ho E ao l.length cap xs hs hcap hnone (h1.len g) h2 hF xv m.length news hx hS b1 b2 fun v' w' hf => ?_
  have hf2 : Full F W (xs ++ news) (l ++ m).length v' w' := by rw [List.length_append]; exact hf
  exact hf2.row g hpos (h1.append hcl)
/-- out of blocks that were there when the call began, into those of a kind -/
theorem Good.inF {G F : Nat → Prop} {w w' : World} (g : Good sz R) (hG : ∀ b, G b → b < w.heap.size) (hF : ∀ b, G b → F b) (hb : Below w.heap.size w w') {x : α} {cs : List Value} (h : R G w x cs) : R (InF F w') w' x cs :=
  g.keep (fun b h => ⟨hF b h, Nat.lt_of_lt_of_le (hG b h) hb.size⟩) (fun b h => hb.block b (hG b h)) h
theorem RRow.inF {G F : Nat → Prop} {w w' : World} {l : List α} {a : Option Addr} (g : Good sz R) (hG : ∀ b, G b → b < w.heap.size) (hF : ∀ b, G b → F b) (hb : Below w.heap.size w w') (h : RRow sz R G w l a) : RRow sz R (InF F w') w' l a :=
  h.keep g (fun b h => ⟨hF b h, Nat.lt_of_lt_of_le (hG b h) hb.size⟩) (fun b h => hb.block b (hG b h))
/-- blocks of a kind, or new ones -/
def Fr (F : Nat → Prop) (w w' : World) : Nat → Prop := fun b => (F b ∨ w.heap.size ≤ b) ∧ b < w'.heap.size
theorem Good.toNow {F : Nat → Prop} {w : World} (g : Good sz R) (hF : ∀ b, F b → b < w.heap.size) {x : α} {cs : List Value} (h : R F w x cs) : R (Now w) w x cs := g.keep hF (fun _ _ => rfl) h
theorem Good.same {F : Nat → Prop} {w w' : World} (g : Good sz R) (hF : ∀ b, F b → b < w.heap.size) (hb : Below w.heap.size w w') {x : α} {cs : List Value} (h : R F w x cs) : R F w' x cs := g.keep (fun _ h => h) (fun b h => hb.block b (hF b h)) h
theorem good_row_same {F : Nat → Prop} {w w' : World} {l : List α} {a : Option Addr} (g : Good sz R) (hF : ∀ b, F b → b < w.heap.size) (hb : Below w.heap.size w w') (h : RRow sz R F w l a) : RRow sz R F w' l a := h.keep g (fun _ h => h) (fun b h => hb.block b (hF b h))
theorem fr_lt {F : Nat → Prop} {w w' : World} (b : Nat) (h : Fr F w w' b) : b < w'.heap.size := h.2
theorem RRow.later {F : Nat → Prop} {w w' : World} {l : List α} {a : Option Addr} (g : Good sz R) (hb : Below w.heap.size w w') (h : RRow sz R (InF F w) w l a) : RRow sz R (InF F w') w' l a := h.keep g (inF_below hb).1 (inF_below hb).2
/-- the blocks of the kind are as they were; then it is there now -/
theorem RRow.now {F : Nat → Prop} {w w' : World} {l : List α} {a : Option Addr} (g : Good sz R) (hk : ∀ b, F b → w'.heap[b]? = w.heap[b]?) (hs : w.heap.size ≤ w'.heap.size) (h : RRow sz R (InF F w) w l a) : Row sz R w' l a :=
  h.keep g (fun b h => Nat.lt_of_lt_of_le h.2 hs) (fun b h => hk b h.1)

/-- a row as what is appended, whatever its capacity -/
theorem Source.row' {t : TypeId} {F : Nat → Prop} {W : World} {l : List α} {a : Option Addr} (g : Good sz R) {cap : Nat} (h : RRow sz R F W l a) : ∃ news, Source P t t sz W (.slice a l.length cap) l.length news ∧ CellsL R F W l news := Source.row g h
/-- a row of the call's own, beyond B, its elements' memory in blocks F below B -/
def OwnN {α : Type} (R : RepT α) (sz : Nat) (e : TypeId) (B : Nat) (F : Nat → Prop) (l : List α) (v : Value) (W : World) : Prop := B ≤ W.heap.size ∧ (∀ b, F b → b < B) ∧ ∃ xs, W.ownsRow B e sz v l.length xs ∧ CellsL R F W l xs
theorem ownN_stable (g : Good sz R) (e : TypeId) (B : Nat) (F : Nat → Prop) (l : List α) : StableV (OwnN R sz e B F l) := fun h ⟨h0, hF, xs, h1, h2⟩ =>
  ⟨Nat.le_trans h0 h.size, hF, xs, own_later h1 h, h2.keep g (fun _ hb => hb) (fun b hb => h.block b (Nat.lt_of_lt_of_le (hF b hb) h0))⟩
/-- an empty slice of its own -/
def NoneAt (e : TypeId) (B : Nat) (v : Value) (W : World) : Prop := ∃ g, v = .slice (some ⟨g, 0, none⟩) 0 0 ∧ B ≤ g ∧ Box W g #[] e
theorem noneAt_stable (e : TypeId) (B : Nat) : StableV (NoneAt e B) := fun h ⟨g, e, h1, hb⟩ => ⟨g, e, h1, hb.below h⟩
theorem NoneAt.own {e : TypeId} {B size : Nat} {v : Value} {W : World} (h : NoneAt e B v W) : W.ownsRow B e size v 0 [] := by
  obtain ⟨g, rfl, h1, hb⟩ := h
  exact ⟨by simp, .inr ⟨g, 0, #[], rfl, h1, hb, Nat.le_refl _, by unfold maxLen; omega, by simp, by simp⟩⟩
theorem grow_empty {B : Nat} {F : Nat → Prop} {a : Act} {o : Oper} {W : World} (g : Good sz R) (s x : Operand) {t e : TypeId} {z : Value} {bytes : Nat} (ho : o.op = .call { callee := .builtin .append, args := #[s, x], argTypes := #[t, t] }) (E : Elem P t e z sz bytes)
    {m : List α} (v0 : Value) (hs : a.eval s = v0) (h0 : NoneAt e B v0 W) (hB : B ≤ W.heap.size) (hF : ∀ b, F b → b < B)
    (xv : Value) (news : List Value) (hx : a.eval x = xv) (hS : Source P t t sz W xv m.length news) (hcl : CellsL R F W m news) (b1 : m.length ≤ maxLen) (b2 : m.length * bytes ≤ 140737488355328) :
    growUpon P LeB (OwnN R sz e B F m) W ((execOp a.eval o).run P W) := by
  obtain ⟨i, hi, hz, hsz, hby⟩ := info_parts E.info
  have hown := h0.own (size := sz)
  obtain ⟨g0, rfl, hg0, hbox⟩ := h0
  have key : ∃ v' w', (Builtin.append_ #[t, t] o.type #[.slice (some ⟨g0, 0, none⟩) 0 0, xv]).run P W = .ok v' w' ∧ LeB W w' ∧ w'.ownsRow B e sz v' m.length news := by
    have hzero : ∀ xo c, m.length = 0 → news = [] → ∃ v' w', (Builtin.append_ #[t, t] o.type #[.slice (some ⟨g0, 0, none⟩) 0 0, .slice xo 0 c]).run P W = .ok v' w' ∧ LeB W w' ∧ w'.ownsRow B e sz v' m.length news := fun xo c hm hn => by
      refine ⟨_, _, run_append_zero W E.ht hi _ 0 0 xo c (Nat.le_refl _) (fun h => ⟨rfl, rfl⟩), leB_refl _, ?_⟩
      rw [hm, hn]
      exact hown
    rcases hS with ⟨ad, c, rfl, _, hl, hnews, h1⟩ | ⟨⟨c, rfl⟩, hm, hn, _⟩ | ⟨str, rfl, _, rfl, hu, h1⟩
    · by_cases hm : m.length = 0
      · have hn : news = [] := List.eq_nil_of_length_eq_zero (by rw [hl, hm]; simp)
        rw [hm]
        rw [hm] at hzero
        exact hzero _ _ rfl hn
      · obtain ⟨v', w', hrun, r1, r2⟩ := run_append_arg_grows (P := P) W t o.type e i z sz bytes E.ht hi hz hsz hby E.hzs E.pos ⟨g0, 0, none⟩ 0 0 [] (by simp) (fun j u h => by simp at h) ad m.length c news hl hnews (by omega) (by omega) (by rw [Nat.zero_add]; exact b2)
        refine ⟨v', w', hrun, grown_below r2, ?_⟩
        have r3 : w'.ownsRow W.heap.size e sz v' m.length news := by simpa using r1
        refine ⟨r3.1, ?_⟩
        rcases r3.2 with h | ⟨gb, cap, cur, e1, e2, e3⟩
        · exact .inl h
        · exact .inr ⟨gb, cap, cur, e1, Nat.le_trans hB e2, e3⟩
    · exact hzero _ _ hm hn
    · exfalso; rw [E.ht] at hu; cases hu
  obtain ⟨v', w', hr, h2, h3⟩ := key
  unfold execOp
  simp only [ho, resolve, invoke, builtin, Sem.run_bind, Sem.run_pure, Result.andThen_ok, List.map_toArray, List.map_cons, List.map_nil, hs, hx, hr]
  exact ⟨h2, Nat.le_trans hB h2.size, hF, news, h3, hcl.keep g (fun _ hb => hb) (fun b hb => h2.block b (Nat.lt_of_lt_of_le (hF b hb) hB))⟩
/-- behind an append to such a row -/
theorem OwnN.grew {B : Nat} {F : Nat → Prop} {e : TypeId} {l m : List α} {v v' : Value} {W W' : World} {xs news : List Value} (g : Good sz R) (hB : B ≤ W.heap.size) (hF : ∀ b, F b → b < B) (h1 : W.ownsRow B e sz v l.length xs) (h2 : CellsL R F W l xs) (h3 : CellsL R F W m news)
    (hg : Grew B e sz W v v' (l.length + m.length) (xs ++ news) W') : OwnN R sz e B F (l ++ m) v' W' := by
  have hk : ∀ b, F b → W'.heap[b]? = W.heap[b]? := fun b hb => hg.other (Nat.lt_of_lt_of_le (hF b hb) hB) (fun e => by have := (h1.lt b e).1; have := hF b hb; omega)
  exact ⟨Nat.le_trans hB hg.by_.size, hF, xs ++ news, by rw [List.length_append]; exact hg.own, (h2.keep g (fun _ h => h) hk).append (h3.keep g (fun _ h => h) hk)⟩
/-- as a row -/
theorem OwnN.row {B : Nat} {F : Nat → Prop} {e : TypeId} {l : List α} {v : Value} {W : World} (g : Good sz R) (h : OwnN R sz e B F l v W) : ∃ ao cap, v = .slice ao l.length cap ∧ l.length ≤ cap ∧ RRow sz R (fun b => b < W.heap.size ∧ (F b ∨ B ≤ b)) W l ao := by
  obtain ⟨hB, hF, xs, h1, h2⟩ := h
  have hlt := h1.lt
  have hcells := fun g hg => h1.cells (g := g) hg
  rcases h1.2 with ⟨hv, hn⟩ | ⟨gb, cap, cur, hv, _, _, h4, _⟩
  · have : l = [] := List.eq_nil_of_length_eq_zero hn
    subst this
    exact ⟨none, 0, hv, Nat.le_refl _, RRow.nil _⟩
  · have ho : v.ownBlock = some gb := by rw [hv]; rfl
    refine ⟨_, cap, hv, h4, ?_⟩
    have hcl := h2.keep (F' := fun b => b < W.heap.size ∧ (F b ∨ B ≤ b)) (w' := W) g (fun b hb => ⟨Nat.lt_of_lt_of_le (hF b hb) hB, .inl hb⟩) (fun _ _ => rfl)
    refine hcl.row g ⟨(hlt gb ho).2, .inr (hlt gb ho).1⟩ (fun j u hu => ?_)
    have := hcells gb ho j u hu
    rw [Nat.zero_add]
    by_cases hj : j = 0
    · subst hj; simpa [Addr.add] using this
    · simpa [Addr.add, hj] using this
end
end Go.Proofs.Ytmlhpchabnajkaa
