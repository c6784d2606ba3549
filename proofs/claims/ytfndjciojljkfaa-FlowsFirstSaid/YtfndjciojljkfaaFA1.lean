import Derived.WalkKit
import Derived.WalkLawsBesides
import Derived.WalkSpells
import Derived.Lib.Hide
import Derived.Deep.QuietTactic
import Derived.BigQuiet
import Derived.Deep.LoopGhost
import Derived.Deep.DeepCutAuto
import Derived.Deep.DeepFit
import Derived.Deep.Light
import Derived.Maps.Range
import Derived.Maps.AppendAt
import Derived.StillTailTactics
import Derived.Lib.AppendStr
import Derived.Deep.AppendLies
import Derived.Deep.RegionHeld3
import Derived.Deep.DrawnRows
import Derived.StillTail
import Derived.Deep.RegionLawGrows
import Derived.ArgAppend
import Derived.Maps.Own
import Derived.Maps.OwnSet
import Derived.Maps.Views
import Derived.Deep.MidRow
import Derived.Laws.Tables
import Derived.TacticsIn
import Derived.OrdersIn
import Derived.Sort.LoopGhostIn
import Derived.RangeFuncIn
import Derived.RangeFuncRecord
import Derived.RangeFuncLeaves
namespace Go.Proofs.Ytfndjciojljkfaa
set_option linter.unusedSimpArgs false
set_option linter.unusedVariables false
open Go.RowKit

section
variable {P : Program}
/-- The row v of w has become the row v' of w': nothing but v's block has been written; v' lies in v's block or in a new one. -/
structure Grew (base : Nat) (e : TypeId) (size : Nat) (w : World) (v : Value) (v' : Value) (n : Nat) (xs : List Value) (w' : World) : Prop where
  own : w'.ownsRow base e size v' n xs
  by_ : w.grownBy w' v.ownBlock
  new : ∀ g, v'.ownBlock = some g → w.heap.size ≤ g ∨ v.ownBlock = some g

theorem grownBy_refl (w : World) (row : Option Nat) : w.grownBy w row := ⟨rfl, rfl, rfl, Nat.le_refl _, fun _ _ _ => rfl⟩
theorem Grew.refl {base : Nat} {e : TypeId} {size : Nat} {w : World} {v : Value} {n : Nat} {xs : List Value} (h : w.ownsRow base e size v n xs) : Grew base e size w v v n xs w :=
  ⟨h, grownBy_refl _ _, fun _ h => .inr h⟩
theorem Grew.trans {base : Nat} {e : TypeId} {size : Nat} {w w1 w2 : World} {v v1 v2 : Value} {n n2 : Nat} {xs xs2 : List Value}
    (h : Grew base e size w v v1 n xs w1) (h2 : Grew base e size w1 v1 v2 n2 xs2 w2) : Grew base e size w v v2 n2 xs2 w2 :=
  ⟨h2.own, h.by_.andThen h2.by_ h.new, fun g hg => by
    rcases h2.new g hg with h3 | h3
    · exact .inl (Nat.le_trans h.by_.size h3)
    · exact h.new g h3⟩
/-- ahead of it new memory has been made -/
theorem Grew.behind {base : Nat} {e : TypeId} {size : Nat} {w w0 w' : World} {v v' : Value} {n : Nat} {xs : List Value}
    (h : Grew base e size w0 v v' n xs w') (hb : Below w.heap.size w w0) : Grew base e size w v v' n xs w' :=
  ⟨h.own, (⟨hb.os, hb.tape, hb.output, hb.size, fun k hk _ => hb.block k hk⟩ : w.grownBy w0 v.ownBlock).andThen h.by_ (fun j hj => .inr hj), fun g hg => by
    rcases h.new g hg with h3 | h3
    · exact .inl (Nat.le_trans hb.size h3)
    · exact .inr h3⟩
/-- behind it nothing but new memory has been made -/
theorem Grew.then_ {base : Nat} {e : TypeId} {size : Nat} {w w1 w' : World} {v v' : Value} {n : Nat} {xs : List Value}
    (h : Grew base e size w v v' n xs w1) (hb : Below w1.heap.size w1 w') : Grew base e size w v v' n xs w' := by
  have hg : w1.grownBy w' none := ⟨hb.os, hb.tape, hb.output, hb.size, fun k hk _ => hb.block k hk⟩
  refine ⟨h.own.kept hg ?_, h.by_.andThen hg (fun j hj => by cases hj), h.new⟩
  cases hv : v'.ownBlock with
  | none => exact .inl rfl
  | some g => exact .inr (by simp)
/-- a row that is new or grown lies beyond what was there: the world below is as it was -/
theorem Grew.below {base : Nat} {e : TypeId} {size : Nat} {w w' : World} {v v' : Value} {n : Nat} {xs : List Value} {B : Nat}
    (h : Grew base e size w v v' n xs w') (hB : B ≤ w.heap.size) (hv : ∀ g, v.ownBlock = some g → B ≤ g) : Below B w w' :=
  (Below.refl B w).grown h.by_ hB hv
theorem Grew.other {base : Nat} {e : TypeId} {size : Nat} {w w' : World} {v v' : Value} {n : Nat} {xs : List Value}
    (h : Grew base e size w v v' n xs w') {b : Nat} (hb : b < w.heap.size) (hne : v.ownBlock ≠ some b) : w'.heap[b]? = w.heap[b]? := h.by_.block b hb (fun e => hne e.symm)
theorem Grew.cell {base : Nat} {e : TypeId} {size : Nat} {w w' : World} {v v' : Value} {n : Nat} {xs : List Value}
    (h : Grew base e size w v v' n xs w') {a : Addr} {u : Value} (hc : w.cell? a = some u) (hne : v.ownBlock ≠ some a.block) : w'.cell? a = some u := h.by_.cell hc (fun e => hne e.symm)

theorem run_append_own2 (w : World) (base : Nat) (t ty e : TypeId) (i : TypeInfo) (z : Value) (size bytes : Nat) (ht : P.underlying t = some (.slice e)) (hi : P.info? e = some i) (hz : i.zero = some z)
    (hsize : i.size = size) (hby : i.bytes = bytes) (hzs : z.cells.size = size) (hsz : 0 < size)
    (v : Value) (n : Nat) (xs : List Value) (hown : w.ownsRow base e size v n xs)
    (a : Addr) (m c : Nat) (news : List Value) (hl : news.length = m * size) (hnews : ∀ j u, news[j]? = some u → w.cell? (a.add j) = some u) (h1 : ∀ u ∈ news, u.oneCell' = true)
    (h63 : n + m ≤ maxLen) (hbytes : (n + m) * bytes ≤ 140737488355328) (hbase : base ≤ w.heap.size) :
    ∃ v' w', (Builtin.append_ #[t, t] ty #[v, .slice (some a) m c]).run P w = .ok v' w' ∧ Grew base e size w v v' (n + m) (xs ++ news) w' := by
  obtain ⟨v', w', hr, h2, h3, h4⟩ := run_append_own (P := P) w base t ty e i z size bytes ht hi hz hsize hby hzs hsz v n xs hown a m c news hl hnews h1 h63 hbytes hbase
  refine ⟨v', w', hr, h2, h3, fun g hg => ?_⟩
  subst hsize
  subst hby
  have hsmall : n + m ≤ 9223372036854775807 := by simp only [maxLen] at h63; omega
  rcases hown.2 with ⟨rfl, rfl⟩ | ⟨g0, cap, cur, rfl, hbg, hg0, hnc, hcm, hcs, htake⟩
  · by_cases hm : m = 0
    · rw [h4.2 ⟨rfl, hm⟩] at hg; cases hg
    · have hr2 := run_append_nil (P := P) w t ty e i z ht hi hz a m c news hl hnews (by omega) (by omega) (by have hb := hbytes; simp only [Nat.zero_add] at hb; omega)
      rw [hr2] at hr
      injection hr with e1 e2
      subst e1
      injection hg with hg; subst hg
      exact .inl (Nat.le_refl _)
  · by_cases hroom : n + m ≤ cap
    · have hfit : n * i.size + news.length ≤ cur.size := by rw [hl, hcs, ← Nat.add_mul]; exact Nat.mul_le_mul_right _ hroom
      have hr2 := run_append_room (P := P) w t ty e i ht hi g0 n cap cur hg0 a m c news hl hnews h1 hroom hfit
      rw [hr2] at hr
      injection hr with e1 e2
      subst e1
      exact .inr hg
    · have hr2 := run_append_grow (P := P) w t ty e i z ht hi hz ⟨g0, 0, none⟩ n cap xs hown.1 (hown.cells (g := g0) rfl) a m c news hl hnews (by omega) (by omega) (growslice_fits (by omega) hbytes)
      rw [hr2] at hr
      injection hr with e1 e2
      subst e1
      injection hg with hg; subst hg
      exact .inl (Nat.le_refl _)

/-- What is appended: a slice's cells, nothing (nil), a string's bytes. -/
def Source (P : Program) (t tx : TypeId) (size : Nat) (w : World) (x : Value) (m : Nat) (news : List Value) : Prop :=
  (∃ ad c, x = .slice (some ad) m c ∧ tx = t ∧ news.length = m * size ∧ (∀ j u, news[j]? = some u → w.cell? (ad.add j) = some u) ∧ (∀ u ∈ news, u.oneCell' = true)) ∨
  ((∃ c, x = .slice none 0 c) ∧ m = 0 ∧ news = [] ∧ tx = t) ∨
  (∃ s, x = .string s ∧ m = s.size ∧ news = Lib.strCells s ∧ P.underlying tx = some .string ∧ size = 1)
theorem Source.cells {t tx : TypeId} {size : Nat} {w : World} (ad : Addr) (m c : Nat) (news : List Value) (ht : tx = t) (hl : news.length = m * size) (hnews : ∀ j u, news[j]? = some u → w.cell? (ad.add j) = some u) (h1 : ∀ u ∈ news, u.oneCell' = true) :
    Source P t tx size w (.slice (some ad) m c) m news := .inl ⟨ad, c, rfl, ht, hl, hnews, h1⟩
theorem Source.nil {t tx : TypeId} {size : Nat} {w : World} {c : Nat} (ht : tx = t) : Source P t tx size w (.slice none 0 c) 0 [] := .inr (.inl ⟨⟨c, rfl⟩, rfl, rfl, ht⟩)
theorem Source.text {t tx : TypeId} {size : Nat} {w : World} (s : ByteArray) (hu : P.underlying tx = some .string) (h1 : size = 1) : Source P t tx size w (.string s) s.size (Lib.strCells s) := .inr (.inr ⟨s, rfl, rfl, rfl, hu, h1⟩)
/-- a row of the call's own as a source -/
theorem Source.own {t e : TypeId} {size : Nat} {w : World} {base : Nat} {v : Value} {n : Nat} {xs : List Value} (h : w.ownsRow base e size v n xs) (h1 : ∀ u ∈ xs, u.oneCell' = true) : Source P t t size w v n xs := by
  have hl := h.1
  have hc := fun (g : Nat) (hg : v.ownBlock = some g) => h.cells hg
  rcases h.2 with ⟨rfl, rfl⟩ | ⟨g, cap, cur, rfl, _⟩
  · have : xs = [] := List.eq_nil_of_length_eq_zero (by simpa using hl)
    subst this
    exact Source.nil rfl
  · exact Source.cells _ _ _ _ rfl hl (hc g rfl) h1
/-- one element, laid into a block of its own -/
theorem Source.one {t e : TypeId} {w : World} (g : Nat) (u : Value) (hg : w.heap[g]? = some (.cells #[u] e (0, 0))) (h1 : u.oneCell' = true) : Source P t t 1 w (.slice (some ⟨g, 0, none⟩) 1 1) 1 [u] :=
  Source.cells _ _ _ _ rfl rfl (World.news_of_block (cs := #[u]) (t := e) (fr := (0, 0)) hg) (by simpa using h1)

theorem run_append_string2 (w : World) (base : Nat) (t u ty e : TypeId) (i : TypeInfo) (ht : P.underlying t = some (.slice e)) (hu : P.underlying u = some .string) (hi : P.info? e = some i) (hz : i.zero = some (.int .u8 0))
    (hsize : i.size = 1) (hby : i.bytes = 1) (v : Value) (n : Nat) (xs : List Value) (hown : w.ownsRow base e 1 v n xs) (s : ByteArray)
    (h63 : n + s.size ≤ maxLen) (hbytes : n + s.size ≤ 140737488355328) (hbase : base ≤ w.heap.size) :
    ∃ v' w', (Builtin.append_ #[t, u] ty #[v, .string s]).run P w = .ok v' w' ∧ Grew base e 1 w v v' (n + s.size) (xs ++ Lib.strCells s) w' := by
  obtain ⟨v', w', hr, h2, h3, h4⟩ := Lib.run_append_own_string (P := P) w base t u ty e i ht hu hi hz hsize hby v n xs hown s h63 hbytes hbase
  refine ⟨v', w', hr, h2, h3, fun g hg => ?_⟩
  have hsmall : n + s.size ≤ 9223372036854775807 := by simp only [maxLen] at h63; omega
  have hxl : xs.length = n := by simpa using hown.1
  rcases hown.2 with ⟨rfl, rfl⟩ | ⟨g0, cap, cur, rfl, hbg, hg0, hnc, hcm, hcs, htake⟩
  · by_cases hm : s.size = 0
    · rw [h4.2 ⟨rfl, hm⟩] at hg; cases hg
    · have hr2 := run_append_nil_string (P := P) w t u ty e i (.int .u8 0) ht hu hi hz s (by omega) (by omega) (by rw [hby]; omega)
      rw [hr2] at hr
      injection hr with e1 e2
      subst e1
      injection hg with hg; subst hg
      exact .inl (Nat.le_refl _)
  · by_cases hroom : n + s.size ≤ cap
    · have hcs' : cur.size = cap := by simpa using hcs
      have hr2 := Lib.run_append_room_string (P := P) w t u ty e i ht hu hi hsize g0 n cap cur hg0 s hroom (by omega)
      rw [hr2] at hr
      injection hr with e1 e2
      subst e1
      exact .inr hg
    · have hr2 := Lib.run_append_grow_string (P := P) w t u ty e i (.int .u8 0) ht hu hi hz ⟨g0, 0, none⟩ n cap xs (by rw [hsize]; simpa using hxl) (hown.cells (g := g0) rfl) s (by omega) (by omega) (by rw [hby]; exact growslice_fits (by omega) (by omega))
      rw [hr2] at hr
      injection hr with e1 e2
      subst e1
      injection hg with hg; subst hg
      exact .inl (Nat.le_refl _)

/-- What a row's element type is: its zero value, its cells, its bytes. -/
structure Elem (P : Program) (t e : TypeId) (z : Value) (size bytes : Nat) : Prop where
  ht : P.underlying t = some (.slice e)
  info : (P.info? e).map (fun i => (i.zero, i.size, i.bytes)) = some (some z, size, bytes)
  hzs : z.cells.size = size
  pos : 0 < size
  byte : size = 1 → bytes = 1 → z = .int .u8 0

theorem run_append_any (w : World) (base : Nat) {t tx ty e : TypeId} {z : Value} {size bytes : Nat} (E : Elem P t e z size bytes) (v : Value) (n : Nat) (xs : List Value) (hown : w.ownsRow base e size v n xs)
    (x : Value) (m : Nat) (news : List Value) (hS : Source P t tx size w x m news) (hb1 : tx = t ∨ bytes = 1)
    (h63 : n + m ≤ maxLen) (hbytes : (n + m) * bytes ≤ 140737488355328) (hbase : base ≤ w.heap.size) :
    ∃ v' w', (Builtin.append_ #[t, tx] ty #[v, x]).run P w = .ok v' w' ∧ Grew base e size w v v' (n + m) (xs ++ news) w' := by
  obtain ⟨i, hi, hz, hsz, hby⟩ := info_parts E.info
  rcases hS with ⟨ad, c, rfl, rfl, hl, hnews, h1⟩ | ⟨⟨c, rfl⟩, rfl, rfl, rfl⟩ | ⟨s, rfl, rfl, rfl, hu, h1⟩
  · exact run_append_own2 w base _ ty e i z size bytes E.ht hi hz hsz hby E.hzs E.pos v n xs hown ad _ c _ hl hnews h1 h63 hbytes hbase
  · have hrun : (Builtin.append_ #[tx, tx] ty #[v, .slice none 0 c]).run P w = .ok v w := by
      rcases hown.2 with ⟨rfl, rfl⟩ | ⟨g, cap, cur, rfl, _, _, hnc, _⟩
      · simp [Builtin.append_, run_underlying E.ht, sizeOf, typeInfo, hi, Builtin.lenOf, Builtin.firstCells]
      · simp [Builtin.append_, run_underlying E.ht, sizeOf, typeInfo, hi, Builtin.lenOf, Builtin.firstCells, hnc, storeCells]
    refine ⟨v, w, hrun, ?_⟩
    simpa using Grew.refl hown
  · rcases hb1 with h | h
    · rw [h, E.ht] at hu; cases hu
    · subst h1 h
      have := E.byte rfl rfl
      subst this
      exact run_append_string2 w base t tx ty e i E.ht hu hi hz hsz hby v n xs hown s h63 (by omega) hbase

section
variable {w : World} {a : Act} {ops : Array Oper} {rest : List Oper} {o : Oper} {Q : Exit → Act → World → Prop}
/-- an append at a plain region's list -/
theorem wpList_app (hgd : o.guard = none) (s x : Operand) {t tx e : TypeId} {z : Value} {size bytes : Nat}
    (ho : o.op = .call { callee := .builtin .append, args := #[s, x], argTypes := #[t, tx] }) (E : Elem P t e z size bytes)
    (base : Nat) (v : Value) (n : Nat) (xs : List Value) (hs : a.eval s = v) (hown : w.ownsRow base e size v n xs) (xv : Value) (m : Nat) (news : List Value) (hx : a.eval x = xv) (hS : Source P t tx size w xv m news) (hb1 : tx = t ∨ bytes = 1)
    (h63 : n + m ≤ maxLen) (hbytes : (n + m) * bytes ≤ 140737488355328) (hbase : base ≤ w.heap.size)
    (h : ∀ v' w', Grew base e size w v v' (n + m) (xs ++ news) w' → wpList P ops Q rest (a.put o.dst v') w') : wpList P ops Q (o :: rest) a w := by
  refine wpList_plain hgd fun _ hK => ?_
  obtain ⟨v', w', hr, h2⟩ := run_append_any (P := P) w base (ty := o.type) E v n xs hown xv m news hS hb1 h63 hbytes hbase
  unfold Oper.wp execOp
  simp only [ho, resolve, invoke, builtin, Sem.run_bind, Sem.run_pure, Result.andThen_ok, List.map_toArray, List.map_cons, List.map_nil, hs, hx, hr]
  exact hK _ _ (h v' w' h2)
/-- an append at a step of a region that draws its order -/
theorem step_app {K : Act → World → Prop} {E' : Prop} (hgd : o.guard = none) (s x : Operand) {t tx e : TypeId} {z : Value} {size bytes : Nat}
    (ho : o.op = .call { callee := .builtin .append, args := #[s, x], argTypes := #[t, tx] }) (E : Elem P t e z size bytes)
    (base : Nat) (v : Value) (n : Nat) (xs : List Value) (hs : a.eval s = v) (hown : w.ownsRow base e size v n xs) (xv : Value) (m : Nat) (news : List Value) (hx : a.eval x = xv) (hS : Source P t tx size w xv m news) (hb1 : tx = t ∨ bytes = 1)
    (h63 : n + m ≤ maxLen) (hbytes : (n + m) * bytes ≤ 140737488355328) (hbase : base ≤ w.heap.size)
    (h : ∀ v' w', Grew base e size w v v' (n + m) (xs ++ news) w' → K (a.put o.dst v') w') :
    if Region.wanted o (yielded ops a.tmps) = true then Oper.wp P o a w K Q else E' := by
  have hw : Region.wanted o (yielded ops a.tmps) = true := by simp [Region.wanted, hgd]
  rw [if_pos hw]
  obtain ⟨v', w', hr, h2⟩ := run_append_any (P := P) w base (ty := o.type) E v n xs hown xv m news hS hb1 h63 hbytes hbase
  unfold Oper.wp execOp
  simp only [ho, resolve, invoke, builtin, Sem.run_bind, Sem.run_pure, Result.andThen_ok, List.map_toArray, List.map_cons, List.map_nil, hs, hx, hr]
  exact h v' w' h2
end

theorem wpList_append_own2 {w : World} {ops : Array Oper} {rest : List Oper} {o : Oper} {a : Act} {Q : Exit → Act → World → Prop} (hgd : o.guard = none) (s x : Operand) (t : TypeId)
    (ho : o.op = .call { callee := .builtin .append, args := #[s, x], argTypes := #[t, t] })
    (base : Nat) (e : TypeId) (i : TypeInfo) (z : Value) (size bytes : Nat) (ht : P.underlying t = some (.slice e)) (hi : P.info? e = some i) (hz : i.zero = some z)
    (hsize : i.size = size) (hby : i.bytes = bytes) (hzs : z.cells.size = size) (hsz : 0 < size)
    (v : Value) (n : Nat) (xs : List Value) (hs : a.eval s = v) (hown : w.ownsRow base e size v n xs)
    (ad : Addr) (m c : Nat) (news : List Value) (hx : a.eval x = .slice (some ad) m c) (hl : news.length = m * size) (hnews : ∀ j u, news[j]? = some u → w.cell? (ad.add j) = some u) (h1 : ∀ u ∈ news, u.oneCell' = true)
    (h63 : n + m ≤ maxLen) (hbytes : (n + m) * bytes ≤ 140737488355328) (hbase : base ≤ w.heap.size)
    (h : ∀ v' w', Grew base e size w v v' (n + m) (xs ++ news) w' → wpList P ops Q rest (a.put o.dst v') w') : wpList P ops Q (o :: rest) a w := by
  refine wpList_plain hgd fun _ hK => ?_
  obtain ⟨v', w', hr, h2⟩ := run_append_own2 (P := P) w base t o.type e i z size bytes ht hi hz hsize hby hzs hsz v n xs hown ad m c news hl hnews h1 h63 hbytes hbase
  unfold Oper.wp execOp
  simp only [ho, resolve, invoke, builtin, Sem.run_bind, Sem.run_pure, Result.andThen_ok, List.map_toArray, List.map_cons, List.map_nil, hs, hx, hr]
  exact hK _ _ (h v' w' h2)
end
theorem le_alloc {b : Nat} {w : World} (h : b ≤ w.heap.size) (o : Obj) : b ≤ (w.alloc o).heap.size := by simp; omega
theorem one_int (k : IntKind) (n : Int) : ∀ u ∈ [Value.int k n], u.oneCell' = true := by simp [Value.oneCell']
theorem maxLen_le {n : Nat} (h : n ≤ 140737488355328) : n ≤ maxLen := by unfold maxLen; omega
end Go.Proofs.Ytfndjciojljkfaa

namespace Go.Proofs.Ytfndjciojljkfaa
set_option linter.unusedSimpArgs false
set_option linter.unusedVariables false
open Go.RowKit

/-- the cells of a datum; F: the blocks in which the memory behind them lies -/
abbrev RepT (α : Type) := (Nat → Prop) → World → α → List Value → Prop
def Now (w : World) : Nat → Prop := fun b => b < w.heap.size

structure Good {α : Type} (sz : Nat) (R : RepT α) : Prop where
  keep : ∀ {F F' : Nat → Prop} {w w' : World}, (∀ b, F b → F' b) → (∀ b, F b → w'.heap[b]? = w.heap[b]?) → ∀ {x : α} {cs : List Value}, R F w x cs → R F' w' x cs
  len : ∀ {F : Nat → Prop} {w : World} {x : α} {cs : List Value}, R F w x cs → cs.length = sz
  one : ∀ {F : Nat → Prop} {w : World} {x : α} {cs : List Value}, R F w x cs → ∀ u ∈ cs, u.oneCell' = true

def RI (k : IntKind) : RepT Int := fun _ _ n cs => cs = [.int k n] ∧ (Lit.int k n).wf = true
def RB : RepT Bool := fun _ _ b cs => cs = [.bool b]
def byteV (b : UInt8) : Value := .int .u8 b.toNat
def RU8 : RepT UInt8 := fun _ _ b cs => cs = [byteV b]
def RStr : RepT (List UInt8) := fun _ _ s cs => cs = [.string ⟨s.toArray⟩] ∧ s.length ≤ 140737488351232
theorem good_int (k : IntKind) : Good 1 (RI k) := ⟨fun _ _ _ _ h => h, fun h => by rw [h.1]; rfl, fun h => by rw [h.1]; simp [Value.oneCell']⟩
theorem good_bool : Good 1 RB := ⟨fun _ _ _ _ h => h, fun h => by rw [h]; rfl, fun h => by rw [h]; simp [Value.oneCell']⟩
theorem good_u8 : Good 1 RU8 := ⟨fun _ _ _ _ h => h, fun h => by rw [h]; rfl, fun h => by rw [h]; simp [byteV, Value.oneCell']⟩
theorem good_str : Good 1 RStr := ⟨fun _ _ _ _ h => h, fun h => by rw [h.1]; rfl, fun h => by rw [h.1]; simp [Value.oneCell']⟩

/-- the data of a list, one after the other from an address on -/
def RRow {α : Type} (sz : Nat) (R : RepT α) (F : Nat → Prop) (w : World) (l : List α) (a : Option Addr) : Prop :=
  ∀ i (h : i < l.length), ∃ b off cs, a = some ⟨b, off, none⟩ ∧ F b ∧ R F w l[i] cs ∧ ∀ j u, cs[j]? = some u → w.cell? ⟨b, off + i * sz + j, none⟩ = some u
def RS {α : Type} (sz : Nat) (R : RepT α) : RepT (List α) := fun F w l cs => ∃ a cap, cs = [.slice a l.length cap] ∧ l.length ≤ cap ∧ l.length ≤ 140737488351232 ∧ RRow sz R F w l a
def RP {α β : Type} (R : RepT α) (S : RepT β) : RepT (α × β) := fun F w p cs => ∃ c1 c2, cs = c1 ++ c2 ∧ R F w p.1 c1 ∧ S F w p.2 c2
def RM {α β : Type} (f : β → α) (R : RepT α) : RepT β := fun F w b cs => R F w (f b) cs

section
variable {α β : Type} {sz : Nat} {R : RepT α} {F F' : Nat → Prop} {w w' : World} {l : List α} {a : Option Addr}
theorem cell_kept {b o : Nat} {u : Value} (hk : w'.heap[b]? = w.heap[b]?) (h : w.cell? ⟨b, o, none⟩ = some u) : w'.cell? ⟨b, o, none⟩ = some u :=
  (World.cell?_of_block (w := w) (w' := w') (a := ⟨b, o, none⟩) hk).trans h
theorem RRow.keep (g : Good sz R) (hF : ∀ b, F b → F' b) (hk : ∀ b, F b → w'.heap[b]? = w.heap[b]?) (h : RRow sz R F w l a) : RRow sz R F' w' l a := fun i hi => by
  obtain ⟨b, off, cs, e, hb, hr, hc⟩ := h i hi
  exact ⟨b, off, cs, e, hF b hb, g.keep hF hk hr, fun j u hu => cell_kept (hk b hb) (hc j u hu)⟩
theorem good_slice (g : Good sz R) : Good 1 (RS sz R) := by
  refine ⟨fun hF hk _ _ h => ?_, fun h => ?_, fun h => ?_⟩
  · obtain ⟨a, cap, e, h1, h2, h3⟩ := h
    exact ⟨a, cap, e, h1, h2, h3.keep g hF hk⟩
  · obtain ⟨a, cap, e, _⟩ := h; rw [e]; rfl
  · obtain ⟨a, cap, e, _⟩ := h; rw [e]; simp [Value.oneCell']
theorem good_pair {s1 s2 : Nat} {S : RepT β} (g : Good s1 R) (g2 : Good s2 S) : Good (s1 + s2) (RP R S) := by
  refine ⟨fun hF hk _ _ h => ?_, fun h => ?_, fun h => ?_⟩
  · obtain ⟨c1, c2, e, h1, h2⟩ := h
    exact ⟨c1, c2, e, g.keep hF hk h1, g2.keep hF hk h2⟩
  · obtain ⟨c1, c2, e, h1, h2⟩ := h
    rw [e, List.length_append, g.len h1, g2.len h2]
  · obtain ⟨c1, c2, e, h1, h2⟩ := h
    rw [e]
    intro u hu
    rcases List.mem_append.1 hu with hu | hu
    · exact g.one h1 u hu
    · exact g2.one h2 u hu
theorem good_map {f : β → α} (g : Good sz R) : Good sz (RM f R) := ⟨fun hF hk _ _ h => g.keep hF hk h, fun h => g.len h, fun h => g.one h⟩

/-- as it lies now -/
abbrev Row (sz : Nat) (R : RepT α) (w : World) (l : List α) (a : Option Addr) : Prop := RRow sz R (Now w) w l a
theorem now_below (hb : Below w.heap.size w w') : (∀ b, Now w b → Now w' b) ∧ (∀ b, Now w b → w'.heap[b]? = w.heap[b]?) :=
  ⟨fun _ h => Nat.lt_of_lt_of_le h hb.size, fun b h => hb.block b h⟩
theorem Good.below (g : Good sz R) {x : α} {cs : List Value} (hb : Below w.heap.size w w') (h : R (Now w) w x cs) : R (Now w') w' x cs := g.keep (now_below hb).1 (now_below hb).2 h
theorem Good.belowF (g : Good sz R) {x : α} {cs : List Value} (hF : ∀ b, F b → b < w.heap.size) (hb : Below w.heap.size w w') (h : R F w x cs) : R F w' x cs := g.keep (fun _ h => h) (fun b hb' => hb.block b (hF b hb')) h
theorem RRow.below (g : Good sz R) (hb : Below w.heap.size w w') (h : Row sz R w l a) : Row sz R w' l a := h.keep g (now_below hb).1 (now_below hb).2
theorem RRow.nil (a : Option Addr) : RRow sz R F w ([] : List α) a := fun i h => by cases h
theorem RRow.take (h : RRow sz R F w l a) (n : Nat) : RRow sz R F w (l.take n) a := fun i hi => by
  have hi' : i < l.length := by rw [List.length_take] at hi; omega
  obtain ⟨b, off, cs, e, hb, hr, hc⟩ := h i hi'
  exact ⟨b, off, cs, e, hb, by rw [List.getElem_take]; exact hr, hc⟩
theorem RRow.tail_ {b off n : Nat} (h : RRow sz R F w l (some ⟨b, off, none⟩)) : RRow sz R F w (l.drop n) (some ⟨b, off + n * sz, none⟩) := fun i hi => by
  have hi' : n + i < l.length := by rw [List.length_drop] at hi; omega
  obtain ⟨b', off', cs, e, hb, hr, hc⟩ := h (n + i) hi'
  cases e
  refine ⟨_, _, cs, rfl, hb, by rw [List.getElem_drop]; exact hr, fun j u hu => ?_⟩
  have := hc j u hu
  rw [Nat.add_mul, ← Nat.add_assoc] at this
  exact this
/-- the address of s[n:] -/
def cutA (a : Option Addr) (cap n sz : Nat) : Option Addr := if cap = n then a else a.map (·.add (n * sz))
theorem RRow.drop {cap : Nat} (h : RRow sz R F w l a) (hcap : l.length ≤ cap) (n : Nat) : RRow sz R F w (l.drop n) (cutA a cap n sz) := by
  by_cases hn : l.length ≤ n
  · rw [List.drop_eq_nil_of_le hn]; exact RRow.nil _
  · obtain ⟨b, off, cs, e, _⟩ := h 0 (by omega)
    subst e
    have : cutA (some ⟨b, off, none⟩) cap n sz = some ⟨b, off + n * sz, none⟩ := by
      unfold cutA
      rw [if_neg (by omega)]
      simp [Addr.add]
    rw [this]
    exact h.tail_
theorem RRow.some_of (h : RRow sz R F w l a) (hp : 0 < l.length) : ∃ b off, a = some ⟨b, off, none⟩ := by
  obtain ⟨b, off, cs, e, _⟩ := h 0 hp
  exact ⟨b, off, e⟩
theorem RRow.mono (g : Good sz R) (hF : ∀ b, F b → F' b) (h : RRow sz R F w l a) : RRow sz R F' w l a := h.keep g hF (fun _ _ => rfl)

/-- the cells of a list, one datum's behind the other's -/
def CellsL (R : RepT α) (F : Nat → Prop) (w : World) : List α → List Value → Prop
  | [], xs => xs = []
  | x :: l, xs => ∃ c ys, xs = c ++ ys ∧ R F w x c ∧ CellsL R F w l ys
theorem CellsL.keep (g : Good sz R) (hF : ∀ b, F b → F' b) (hk : ∀ b, F b → w'.heap[b]? = w.heap[b]?) : ∀ {l : List α} {xs : List Value}, CellsL R F w l xs → CellsL R F' w' l xs
  | [], _, h => h
  | _ :: _, _, ⟨c, ys, e, h1, h2⟩ => ⟨c, ys, e, g.keep hF hk h1, CellsL.keep g hF hk h2⟩
theorem CellsL.append : ∀ {l m : List α} {xs ys : List Value}, CellsL R F w l xs → CellsL R F w m ys → CellsL R F w (l ++ m) (xs ++ ys)
  | [], _, _, _, h, h2 => by cases h; exact h2
  | _ :: _, _, _, _, ⟨c, zs, e, h1, h2⟩, h3 => ⟨c, zs ++ _, by rw [e, List.append_assoc], h1, CellsL.append h2 h3⟩
theorem CellsL.single {x : α} {cs : List Value} (h : R F w x cs) : CellsL R F w [x] cs := ⟨cs, [], by simp, h, rfl⟩
theorem CellsL.len (g : Good sz R) : ∀ {l : List α} {xs : List Value}, CellsL R F w l xs → xs.length = l.length * sz
  | [], _, h => by cases h; simp
  | _ :: _, _, ⟨c, zs, e, h1, h2⟩ => by rw [e, List.length_append, g.len h1, CellsL.len g h2, List.length_cons, Nat.add_mul, Nat.one_mul, Nat.add_comm]
theorem CellsL.one (g : Good sz R) : ∀ {l : List α} {xs : List Value}, CellsL R F w l xs → ∀ u ∈ xs, u.oneCell' = true
  | [], _, h => by cases h; simp
  | _ :: _, _, ⟨c, zs, e, h1, h2⟩ => by
    rw [e]
    intro u hu
    rcases List.mem_append.1 hu with hu | hu
    · exact g.one h1 u hu
    · exact CellsL.one g h2 u hu
/-- out of its cells, a row -/
theorem CellsL.row (g : Good sz R) {b : Nat} (hb : F b) : ∀ {l : List α} {xs : List Value} {off : Nat}, CellsL R F w l xs → (∀ j u, xs[j]? = some u → w.cell? ⟨b, off + j, none⟩ = some u) → RRow sz R F w l (some ⟨b, off, none⟩)
  | [], _, _, _, _ => RRow.nil _
  | x :: l, xs, off, ⟨c, ys, e, h1, h2⟩, hc => by
    have hl := g.len h1
    have ih := CellsL.row (off := off + sz) g hb h2 (fun j u hu => by
      have := hc (sz + j) u (by rw [e, List.getElem?_append_right (by omega), hl]; simpa using hu)
      rwa [← Nat.add_assoc] at this)
    intro i hi
    cases i with
    | zero =>
      refine ⟨b, off, c, rfl, hb, h1, fun j u hu => ?_⟩
      have := hc j u (by rw [e, List.getElem?_append_left (by have := (List.getElem?_eq_some_iff.1 hu).1; omega)]; exact hu)
      simpa using this
    | succ i =>
      obtain ⟨b', off', cs, e', hb', hr, hcs⟩ := ih i (by simpa using hi)
      cases e'
      refine ⟨b, off, cs, rfl, hb, by simpa using hr, fun j u hu => ?_⟩
      have := hcs j u hu
      rw [show off + (i + 1) * sz + j = off + sz + i * sz + j by rw [Nat.add_mul]; omega]
      exact this
/-- out of a row, its cells -/
theorem RRow.cells {b off : Nat} (g : Good sz R) : ∀ {l : List α} {off : Nat}, RRow sz R F w l (some ⟨b, off, none⟩) → ∃ xs, CellsL R F w l xs ∧ ∀ j u, xs[j]? = some u → w.cell? ⟨b, off + j, none⟩ = some u
  | [], _, _ => ⟨[], rfl, fun j u h => by simp at h⟩
  | x :: l, off, h => by
    obtain ⟨b', off', cs, e, hb, hr, hc⟩ := h 0 (by simp)
    cases e
    have ht := h.tail_ (n := 1)
    simp only [List.drop_succ_cons, List.drop_zero, Nat.one_mul] at ht
    obtain ⟨xs, h1, h2⟩ := RRow.cells (off := off) g ht
    have hl := g.len hr
    refine ⟨cs ++ xs, ⟨cs, xs, rfl, by simpa using hr, h1⟩, fun j u hu => ?_⟩
    by_cases hj : j < cs.length
    · rw [List.getElem?_append_left hj] at hu
      simpa using hc j u hu
    · rw [List.getElem?_append_right (by omega)] at hu
      have := h2 _ u hu
      rw [show off + sz + (j - cs.length) = off + j by omega] at this
      exact this

/-- the blocks that are not the row's own -/
def Off (w : World) (v : Value) : Nat → Prop := fun b => b < w.heap.size ∧ v.ownBlock ≠ some b
/-- a row of the call's own that reads as a list -/
def OwnL (R : RepT α) (sz : Nat) (e : TypeId) (base : Nat) (w : World) (v : Value) (l : List α) : Prop := ∃ xs, w.ownsRow base e sz v l.length xs ∧ CellsL R (Off w v) w l xs
theorem OwnL.nil (e : TypeId) (base : Nat) (w : World) : OwnL R sz e base w (.slice none 0 0) ([] : List α) := ⟨[], World.ownsRow_nil .., rfl⟩
theorem grown_of (hb : Below w.heap.size w w') : w.grownBy w' none := ⟨hb.os, hb.tape, hb.output, hb.size, fun k hk _ => hb.block k hk⟩
theorem own_later {base : Nat} {e : TypeId} {size : Nat} {v : Value} {n : Nat} {xs : List Value} (h : w.ownsRow base e size v n xs) (hb : Below w.heap.size w w') : w'.ownsRow base e size v n xs := by
  refine h.kept (grown_of hb) ?_
  cases v.ownBlock with
  | none => exact .inl rfl
  | some g => exact .inr (by simp)
theorem OwnL.below (g : Good sz R) {e : TypeId} {base : Nat} {v : Value} (h : OwnL R sz e base w v l) (hb : Below w.heap.size w w') : OwnL R sz e base w' v l := by
  obtain ⟨xs, h1, h2⟩ := h
  exact ⟨xs, own_later h1 hb, h2.keep g (fun b hb' => ⟨Nat.lt_of_lt_of_le hb'.1 hb.size, hb'.2⟩) (fun b hb' => hb.block b hb'.1)⟩
theorem own_form {base : Nat} {e : TypeId} {size : Nat} {v : Value} {n : Nat} {xs : List Value} (h : w.ownsRow base e size v n xs) : ∃ a cap, v = .slice a n cap ∧ n ≤ cap := by
  rcases h.2 with ⟨rfl, rfl⟩ | ⟨g, cap, cur, rfl, _, _, h4, _⟩
  · exact ⟨_, _, rfl, Nat.le_refl _⟩
  · exact ⟨_, _, rfl, h4⟩
theorem OwnL.row (g : Good sz R) {e : TypeId} {base : Nat} {v : Value} (h : OwnL R sz e base w v l) : ∃ a cap, v = .slice a l.length cap ∧ l.length ≤ cap ∧ Row sz R w l a ∧ ∀ ad, a = some ad → base ≤ ad.block ∧ ad.block < w.heap.size := by
  obtain ⟨xs, h1, h2⟩ := h
  have hlt := h1.lt
  have hcells := fun g hg => h1.cells (g := g) hg
  rcases h1.2 with ⟨hv, hn⟩ | ⟨gb, cap, cur, hv, _, _, h4, _⟩
  · have : l = [] := List.eq_nil_of_length_eq_zero hn
    subst this
    exact ⟨none, 0, hv, Nat.le_refl _, RRow.nil _, fun ad h => by cases h⟩
  · have ho : v.ownBlock = some gb := by rw [hv]; rfl
    refine ⟨_, cap, hv, h4, ?_, fun ad h => by cases h; exact hlt gb ho⟩
    have hcl := h2.keep (F' := Now w) (w' := w) g (fun b hb => hb.1) (fun _ _ => rfl)
    have hgb : Now w gb := (hlt gb ho).2
    refine hcl.row g hgb (fun j u hu => ?_)
    have := hcells gb ho j u hu
    rw [Nat.zero_add]
    by_cases hj : j = 0
    · subst hj; simpa [Addr.add] using this
    · simpa [Addr.add, hj] using this
theorem Grew.offs {base : Nat} {e : TypeId} {size : Nat} {v v' : Value} {n : Nat} {xs : List Value} (hg : Grew base e size w v v' n xs w') : (∀ b, Off w v b → Off w' v' b) ∧ (∀ b, Off w v b → w'.heap[b]? = w.heap[b]?) := by
  refine ⟨fun b hb => ⟨Nat.lt_of_lt_of_le hb.1 hg.by_.size, fun e => ?_⟩, fun b hb => hg.other hb.1 hb.2⟩
  rcases hg.new b e with h | h
  · have := hb.1; omega
  · exact hb.2 h
theorem OwnL.grew (g : Good sz R) {e : TypeId} {base : Nat} {v v' : Value} {m : List α} {xs news : List Value} (h2 : CellsL R (Off w v) w l xs) (h3 : CellsL R (Off w v) w m news)
    (hg : Grew base e sz w v v' (l.length + m.length) (xs ++ news) w') : OwnL R sz e base w' v' (l ++ m) := by
  refine ⟨xs ++ news, by rw [List.length_append]; exact hg.own, CellsL.append (h2.keep g hg.offs.1 hg.offs.2) (h3.keep g hg.offs.1 hg.offs.2)⟩
/-- another row of the call's own, while this one grows -/
theorem OwnL.other (g : Good sz R) {e e' : TypeId} {size' : Nat} {base : Nat} {v u u' : Value} {n : Nat} {ys : List Value} (h : OwnL R sz e base w v l) (hg : Grew base e' size' w u u' n ys w')
    (hne : ∀ b, u.ownBlock = some b → v.ownBlock ≠ some b) (hF : ∀ xs, CellsL R (Off w v) w l xs → CellsL R (fun b => Off w v b ∧ u.ownBlock ≠ some b) w l xs) : OwnL R sz e base w' v l := by
  obtain ⟨xs, h1, h2⟩ := h
  refine ⟨xs, h1.kept hg.by_ ?_, (hF xs h2).keep g (fun b hb => ⟨Nat.lt_of_lt_of_le hb.1.1 hg.by_.size, hb.1.2⟩) (fun b hb => hg.other hb.1.1 hb.2)⟩
  cases e4 : v.ownBlock with
  | none => exact .inl rfl
  | some g => exact .inr fun e => hne g e.symm e4
/-- a row as what is appended -/
theorem Source.row {P : Program} {t : TypeId} (g : Good sz R) {cap : Nat} (h : RRow sz R F w l a) : ∃ news, Source P t t sz w (.slice a l.length cap) l.length news ∧ CellsL R F w l news := by
  cases a with
  | none =>
    have hl : l = [] := by
      cases l with
      | nil => rfl
      | cons x l => obtain ⟨b, off, cs, e, _⟩ := h 0 (by simp); cases e
    subst hl
    exact ⟨[], Source.nil rfl, rfl⟩
  | some ad =>
    cases l with
    | nil => exact ⟨[], Source.cells _ _ _ _ rfl (by simp) (fun j u h => by simp at h) (by simp), rfl⟩
    | cons x l =>
      obtain ⟨b, off, cs, e, _⟩ := h 0 (by simp)
      cases e
      obtain ⟨xs, h1, h2⟩ := RRow.cells (off := off) (b := b) g h
      refine ⟨xs, Source.cells _ _ _ _ rfl (h1.len g) (fun j u hu => ?_) (h1.one g), h1⟩
      have := h2 j u hu
      by_cases hj : j = 0
      · subst hj; simpa [Addr.add] using this
      · simpa [Addr.add, hj] using this
end
/-- what a call hands back that makes memory alone -/
def Gives (v : Value) (w : World) (e : Ending) (w' : World) : Prop := e = .returned v ∧ Below w.heap.size w w'
theorem below_cell {w w' : World} (hb : Below w.heap.size w w') {a : Addr} {v : Value} (h : w.cell? a = some v) : w'.cell? a = some v := (hb.cell (World.block_lt_of_cell? _ _ h)).trans h
theorem ret_bool {a b : Bool} (h : a = b) : Ending.returned (.bool a) = .returned (.bool b) := by rw [h]
theorem ret_int {k : IntKind} {a b : Int} (h : a = b) : Ending.returned (.int k a) = .returned (.int k b) := by rw [h]
def i64R (n : Int) : Prop := -9223372036854775808 ≤ n ∧ n ≤ 9223372036854775807
theorem wf_i64 {n : Int} (h : (Lit.int .i64 n).wf = true) : i64R n := by
  have : -9223372036854775808 ≤ n ∧ n ≤ 9223372036854775807 := by simpa [Lit.wf, IntKind.min, IntKind.max, IntKind.signed, IntKind.bits] using h
  exact this
theorem i64_wf {n : Int} (h : i64R n) : (Lit.int .i64 n).wf = true := WalkArith.wf_i64 h
/-- a world that comes later -/
structure Later (w : World) where
  W : World
  by_ : Below w.heap.size w W
instance laterInh (w : World) : Inhabited (Later w) := ⟨⟨w, Below.refl _ _⟩⟩
theorem wp_region_later {P : Program} {id : Nat} {Q : Exit → Act → World → Prop} {a : Act} {w : World} {l : List Oper} (hm : P.follows .mixedOrders = true) (hB : Region.lexB .any l.toArray = true)
    (h : wpQuiet P l.toArray (fun w' => ∃ p : Later w, w' = p.W) (fun a' => ∀ w', (∃ p : Later w, w' = p.W) → Q .normal a' w') l a) : (Code.region id l.toArray true).wp P Q a w :=
  wp_region_quiet (C := fun w' => ∃ p : Later w, w' = p.W) hm hB ⟨⟨w.drew, (Below.refl _ _).drew⟩, rfl⟩ (by simpa using h)
theorem later_of {P : Program} {f : FuncId} {args : Array Value} {w : World} {v : Value} (p : Later w) (h : Calls P f args p.W (Gives v p.W)) : Calls P f args p.W fun e w'' => e = .returned v ∧ ∃ q : Later w, w'' = q.W :=
  h.mono fun _ _ ⟨he, hb⟩ => ⟨he, ⟨_, p.by_.trans (hb.mono p.by_.size)⟩, rfl⟩
theorem Later.cell {w : World} (p : Later w) {b o : Nat} {v : Value} (h : w.cell? ⟨b, o, none⟩ = some v) : p.W.cell? ⟨b, o, none⟩ = some v := below_cell p.by_ h
theorem below_drewN {B : Nat} {a w : World} (h : Below B a w) (n : Nat) : Below B a (w.drewN n) := ⟨h.os, h.tape, h.output, h.size, h.block⟩
/-- a variable of the call's own: a block, whole -/
def Box (w : World) (b : Nat) (cs : Array Value) (t : TypeId) : Prop := w.heap[b]? = some (.cells cs t (0, 0))
section
variable {w w' : World} {b : Nat} {cs : Array Value} {t : TypeId}
theorem Box.cell (h : Box w b cs t) (o : Nat) {v : Value} (hv : cs[o]? = some v) : w.cell? ⟨b, o, none⟩ = some v := by
  unfold Box at h; simp [World.cell?, h, hv]
theorem Box.free (h : Box w b cs t) (o : Nat) : w.frozen? ⟨b, o, none⟩ = false := by
  unfold Box at h; simp [World.frozen?, h]
theorem Box.lt (h : Box w b cs t) : b < w.heap.size := (Array.getElem?_eq_some_iff.1 h).1
theorem Box.below (h : Box w b cs t) (hb : Below w.heap.size w w') : Box w' b cs t := (hb.block b h.lt).trans h
theorem Box.new (w : World) (cs : Array Value) (t : TypeId) : Box (w.alloc (.cells cs t)) w.heap.size cs t := heap_alloc_new w _
theorem Box.alloc (h : Box w b cs t) (o : Obj) : Box (w.alloc o) b cs t := h.below ((Below.refl _ _).alloc (Nat.le_refl _) _)
theorem Box.drew (h : Box w b cs t) : Box w.drew b cs t := h
theorem Box.drewN (h : Box w b cs t) (n : Nat) : Box (w.drewN n) b cs t := h
theorem Box.other (h : Box w b cs t) {b' o : Nat} (hne : b ≠ b') (v : Value) : Box (w.setCell ⟨b', o, none⟩ v) b cs t := by
  unfold Box at h ⊢
  rw [Below.heap_setCell w ⟨b', o, none⟩ v b hne]
  exact h
theorem Box.set (h : Box w b cs t) (o : Nat) (v : Value) : Box (w.setCell ⟨b, o, none⟩ v) b (cs.setIfInBounds o v) t := heap_setCell_same w b o cs t v h
end
end Go.Proofs.Ytfndjciojljkfaa

namespace Go.Proofs.Ytfndjciojljkfaa
set_option linter.unusedSimpArgs false
set_option linter.unusedVariables false
open Go.RowKit

structure LaterG (Le : World → World → Prop) (w : World) where
  W : World
  by_ : Le w W

/-- what an operation has left: a value with its property, a world that comes later -/
def growUpon (P : Program) (Le : World → World → Prop) (Φ : Value → World → Prop) (W : World) : Result Next → Prop
  | .ok (.value v) W' => Le W W' ∧ Φ v W'
  | .ok (.enter f args) W' => Le W W' ∧ Calls P f args W' (fun e W'' => ∃ v, e = .returned v ∧ Le W' W'' ∧ Φ v W'')
  | _ => False
/-- one value, whatever the world -/
def sameUpon (Le : World → World → Prop) (v : Value) (W : World) : Result Next → Prop
  | .ok (.value u) W' => Le W W' ∧ u = v
  | .ok .skip W' => Le W W' ∧ v = undef
  | _ => False
def upd (f : Nat → Value) (k : Nat) (v : Value) : Nat → Value := fun j => if j = k then v else f j
theorem upd_same (f : Nat → Value) (k : Nat) (v : Value) : upd f k v k = v := if_pos rfl
theorem upd_other (f : Nat → Value) {k j : Nat} (v : Value) (h : j ≠ k) : upd f k v j = f j := if_neg h
theorem upd_comm (f : Nat → Value) {i j : Nat} (v u : Value) (h : i ≠ j) : upd (upd f i v) j u = upd (upd f j u) i v := by
  funext k
  unfold upd
  split <;> split <;> first | rfl | omega

section
variable {P : Program} {ops : Array Oper} {md : Region.Mode} {Le : World → World → Prop} {w0 : World} {Ψ : Nat → Value → World → Prop} {hv : Nat → Option (List Nat)}

def factsOf (Ψ : Nat → Value → World → Prop) (ds : List Nat) (f : Nat → Value) (W : World) : Prop := ∀ h ∈ ds, Ψ h (f h) W
def gquietAt (P : Program) (Le : World → World → Prop) (w0 : World) (o : Oper) (a : Act) (v : Value) : Prop := ∀ p : LaterG Le w0, sameUpon Le v p.W ((execOp a.eval o).run P p.W)
def gquiet (P : Program) (Le : World → World → Prop) (w0 : World) (o : Oper) (a : Act) (next : Act → Prop) : Prop := ∃ v, gquietAt P Le w0 o a v ∧ next (a.put o.dst v)
def gheavy (P : Program) (Le : World → World → Prop) (w0 : World) (o : Oper) (a : Act) (pre : World → Prop) (Φ : Value → World → Prop) : Prop := ∀ p : LaterG Le w0, pre p.W → growUpon P Le Φ p.W ((execOp a.eval o).run P p.W)

def gOp (P : Program) (ops : Array Oper) (Le : World → World → Prop) (w0 : World) (Ψ : Nat → Value → World → Prop) (hv : Nat → Option (List Nat)) (i : Nat) (K : Act → (Nat → Value) → Prop) (a : Act) (f : Nat → Value) : Prop :=
  match ops[i]? with
  | none => K a f
  | some o => match hv i with
    | none => if Region.wanted o (yielded ops a.tmps) = true then gquiet P Le w0 o a (fun a' => K a' f) else K (a.put o.dst undef) f
    | some ds => Region.wanted o (yielded ops a.tmps) = true ∧ gheavy P Le w0 o a (factsOf Ψ ds f) (Ψ i) ∧ ∀ v, K (a.put o.dst v) (upd f i v)

/-- the walk in one order -/
def wpG (P : Program) (ops : Array Oper) (Le : World → World → Prop) (w0 : World) (Ψ : Nat → Value → World → Prop) (hv : Nat → Option (List Nat)) (R : Act → (Nat → Value) → Prop) : List (Nat × Oper) → Act → (Nat → Value) → Prop
  | [], a, f => R a f
  | (k, o) :: rest, a, f => match hv k with
    | none => if Region.wanted o (yielded ops a.tmps) = true then gquiet P Le w0 o a (fun a' => wpG P ops Le w0 Ψ hv R rest a' f) else wpG P ops Le w0 Ψ hv R rest (a.put o.dst undef) f
    | some ds => Region.wanted o (yielded ops a.tmps) = true ∧ gheavy P Le w0 o a (factsOf Ψ ds f) (Ψ k) ∧ ∀ v, wpG P ops Le w0 Ψ hv R rest (a.put o.dst v) (upd f k v)

def wpAnyG (P : Program) (md : Region.Mode) (ops : Array Oper) (Le : World → World → Prop) (w0 : World) (Ψ : Nat → Value → World → Prop) (hv : Nat → Option (List Nat)) (n : Nat → Bool) (L : Array Bool → Act → (Nat → Value) → Prop) : Nat → Array Bool → Act → (Nat → Value) → Prop
  | 0, listed, a, f => L listed a f
  | F + 1, listed, a, f => Region.ready md ops listed ≠ [] ∧ ∀ i ∈ Region.ready md ops listed, n i = true ∧ gOp P ops Le w0 Ψ hv i (wpAnyG P md ops Le w0 Ψ hv n L F (listed.setIfInBounds i true)) a f

theorem gOp_mono {i : Nat} {K K' : Act → (Nat → Value) → Prop} {a : Act} {f : Nat → Value} (h : ∀ a f, K a f → K' a f) (hh : gOp P ops Le w0 Ψ hv i K a f) : gOp P ops Le w0 Ψ hv i K' a f := by
  unfold gOp at *
  split
  · rename_i ho; simp only [ho] at hh; exact h _ _ hh
  · rename_i o ho
    simp only [ho] at hh
    split
    · rename_i hq
      simp only [hq] at hh
      split
      · rename_i hw; simp only [hw, if_true] at hh; obtain ⟨v, h1, h2⟩ := hh; exact ⟨v, h1, h _ _ h2⟩
      · rename_i hw; simp only [hw] at hh; exact h _ _ hh
    · rename_i ds hq
      simp only [hq] at hh
      exact ⟨hh.1, hh.2.1, fun v => h _ _ (hh.2.2 v)⟩

/-- what is known of those that have come up -/
def Facts (Ψ : Nat → Value → World → Prop) (hv : Nat → Option (List Nat)) (listed : Array Bool) (f : Nat → Value) (W : World) : Prop := ∀ h ds, hv h = some ds → listed.getD h false = true → Ψ h (f h) W

structure Lawful (Le : World → World → Prop) (Ψ : Nat → Value → World → Prop) : Prop where
  trans : ∀ {a b c}, Le a b → Le b c → Le a c
  stable : ∀ {k v W W'}, Le W W' → Ψ k v W → Ψ k v W'
def depsB (md : Region.Mode) (ops : Array Oper) (hv : Nat → Option (List Nat)) : Bool := (List.range ops.size).all fun i => match hv i with | none => true | some ds => ds.all fun h => (hv h).isSome && Region.waitsFor md ops i h
theorem depsB_spec (hd : depsB md ops hv = true) {i : Nat} {o : Oper} (ho : ops[i]? = some o) {ds : List Nat} (hi : hv i = some ds) {h : Nat} (hh : h ∈ ds) : (∃ ds', hv h = some ds') ∧ ∃ e ∈ o.after, Region.binds md e = true ∧ e.on = h := by
  have hlt : i < ops.size := (Array.getElem?_eq_some_iff.1 ho).1
  have h1 := List.all_eq_true.1 hd i (List.mem_range.2 hlt)
  simp only [hi] at h1
  have h2 := List.all_eq_true.1 h1 h hh
  simp only [Bool.and_eq_true] at h2
  obtain ⟨o', ho', e, he, hb, hon⟩ := Region.waitsFor_spec h2.2
  have : o' = o := Option.some.inj (ho'.symm.trans ho)
  subst this
  exact ⟨Option.isSome_iff_exists.1 h2.1, e, he, hb, hon⟩
theorem deps_listed (hd : depsB md ops hv = true) {i : Nat} {listed : Array Bool} (hr : i ∈ Region.ready md ops listed) {ds : List Nat} (hi : hv i = some ds) {h : Nat} (hh : h ∈ ds) : listed.getD h false = true := by
  obtain ⟨_, o, ho, hall⟩ := mem_ready.1 hr
  obtain ⟨_, e, he, hb, hon⟩ := depsB_spec hd ho hi hh
  rw [← hon]
  exact hall e he hb

theorem wpAny_of_G (law : Lawful Le Ψ) (hd : depsB md ops hv = true) {n : Nat → Bool} {g : Nat} {L : Array Bool → Act → (Nat → Value) → Prop} {Q : Exit → Act → World → Prop}
    (hL : ∀ listed a f W, L listed a f → Le w0 W → Facts Ψ hv listed f W → wpAny P md ops Q g listed a W) :
    ∀ (F : Nat) (listed : Array Bool) (a : Act) (f : Nat → Value) (W : World), wpAnyG P md ops Le w0 Ψ hv n L F listed a f → Le w0 W → Facts Ψ hv listed f W → wpAny P md ops Q (F + g) listed a W
  | 0, listed, a, f, W, h, hW, hf => by rw [Nat.zero_add]; exact hL _ _ _ _ h hW hf
  | F + 1, listed, a, f, W, h, hW, hf => by
    rw [show F + 1 + g = (F + g) + 1 by omega]
    refine ⟨fun h0 => absurd h0 h.1, fun i hi => ?_⟩
    have hg := (h.2 i hi).2
    have hun := (mem_ready.1 hi).1
    have hset : ∀ {j : Nat}, (listed.setIfInBounds i true).getD j false = true → j ≠ i → listed.getD j false = true := fun {j} hj hne => by rwa [getD_set_ne false (Ne.symm hne)] at hj
    unfold gOp at hg
    unfold wpOp
    split
    · rename_i ho
      simp only [ho] at hg
      obtain ⟨_, o, ho', _⟩ := mem_ready.1 hi
      rw [ho] at ho'
      cases ho'
    · rename_i o ho
      simp only [ho] at hg
      cases hq : hv i with
      | none =>
        simp only [hq] at hg
        have hF : ∀ {W'}, Le W W' → Facts Ψ hv (listed.setIfInBounds i true) f W' := fun {W'} hle h ds hh hl => law.stable hle (hf h ds hh (hset hl (fun e => by subst e; rw [hq] at hh; cases hh)))
        split
        · rename_i hw
          simp only [hw, if_true] at hg
          obtain ⟨v, h1, h2⟩ := hg
          have h3 := h1 ⟨W, hW⟩
          refine .inl ?_
          unfold Oper.wp
          simp only at h3
          generalize (execOp a.eval o).run P W = r at *
          cases r with
          | ok nx W' =>
            cases nx <;> simp only [sameUpon] at h3 <;> simp only [Oper.upon]
            case value u => rw [h3.2]; exact wpAny_of_G law hd hL F _ _ _ _ h2 (law.trans hW h3.1) (hF h3.1)
            case skip => rw [h3.2] at h2; exact wpAny_of_G law hd hL F _ _ _ _ h2 (law.trans hW h3.1) (hF h3.1)
          | halt x W' => simp only [sameUpon] at h3
        · rename_i hw
          simp only [hw] at hg
          exact wpAny_of_G law hd hL F _ _ _ _ hg hW (fun h ds hh hl => hf h ds hh (hset hl (fun e => by subst e; rw [hq] at hh; cases hh)))
      | some ds =>
        simp only [hq] at hg
        obtain ⟨hw, h1, h2⟩ := hg
        have hpre : factsOf Ψ ds f W := fun h hh => by
          obtain ⟨⟨ds', hds'⟩, _⟩ := depsB_spec hd ho hq hh
          exact hf h ds' hds' (deps_listed hd hi hq hh)
        have h3 := h1 ⟨W, hW⟩ hpre
        have hF : ∀ {v W'}, Le W W' → Ψ i v W' → Facts Ψ hv (listed.setIfInBounds i true) (upd f i v) W' := fun {v W'} hle hv' h ds' hh hl => by
          by_cases e : h = i
          · subst e; rw [upd_same]; exact hv'
          · rw [upd_other _ _ e]; exact law.stable hle (hf h ds' hh (hset hl e))
        simp only [hw, if_true]
        refine .inl ?_
        unfold Oper.wp
        simp only at h3
        generalize (execOp a.eval o).run P W = r at *
        cases r with
        | ok nx W' =>
          cases nx <;> simp only [growUpon] at h3 <;> simp only [Oper.upon]
          case value u => exact wpAny_of_G law hd hL F _ _ _ _ (h2 u) (law.trans hW h3.1) (hF h3.1 h3.2)
          case enter fn args =>
            refine h3.2.mono fun e W'' he => ?_
            obtain ⟨v, rfl, hle, hp⟩ := he
            exact wpAny_of_G law hd hL F _ _ _ _ (h2 v) (law.trans hW (law.trans h3.1 hle)) (hF (law.trans h3.1 hle) hp)
        | halt x W' => simp only [growUpon] at h3

theorem gquietAt_put {o : Oper} (hs : ∀ cs b, o.op ≠ .select cs b) {a : Act} {dst : Option Tmp} {v u : Value} (h : ∀ d, dst = some d → d ∉ o.looksAt ops) : gquietAt P Le w0 o (a.put dst v) u ↔ gquietAt P Le w0 o a u := by
  unfold gquietAt
  rw [execOp_put (ops := ops) o hs a dst v h]
theorem gheavy_put {o : Oper} (hs : ∀ cs b, o.op ≠ .select cs b) {a : Act} {dst : Option Tmp} {v : Value} {pre : World → Prop} {Φ : Value → World → Prop} (h : ∀ d, dst = some d → d ∉ o.looksAt ops) : gheavy P Le w0 o (a.put dst v) pre Φ ↔ gheavy P Le w0 o a pre Φ := by
  unfold gheavy
  rw [execOp_put (ops := ops) o hs a dst v h]
theorem gquietAt_one {o : Oper} {a : Act} {u v : Value} (hrefl : Le w0 w0) (h1 : gquietAt P Le w0 o a u) (h2 : gquietAt P Le w0 o a v) : u = v := by
  have a1 := h1 ⟨w0, hrefl⟩
  have a2 := h2 ⟨w0, hrefl⟩
  simp only at a1 a2
  generalize (execOp a.eval o).run P w0 = r at *
  cases r with
  | ok nx W' =>
    cases nx <;> simp only [sameUpon] at a1 a2
    · rw [← a1.2, ← a2.2]
    · rw [a1.2, a2.2]
  | halt x W' => simp only [sameUpon] at a1

/-- one operation j that is apart from i, ahead of i -/
theorem gOp_swap (hrefl : Le w0 w0) {i j : Nat} {oi oj : Oper} (hij : j ≠ i) (hi : ops[i]? = some oi) (hj : ops[j]? = some oj) (hap : oi.apart ops oj = true) (hsi : ∀ cs b, oi.op ≠ .select cs b) (hsj : ∀ cs b, oj.op ≠ .select cs b)
    (hdi : ∀ ds, hv i = some ds → j ∉ ds) (hdj : ∀ ds, hv j = some ds → i ∉ ds) {K : Act → (Nat → Value) → Prop} {a : Act} {f : Nat → Value}
    (h : gOp P ops Le w0 Ψ hv i (fun a' f' => gOp P ops Le w0 Ψ hv j K a' f') a f) : gOp P ops Le w0 Ψ hv j (fun a' f' => gOp P ops Le w0 Ψ hv i K a' f') a f := by
  obtain ⟨h1, h2, h3⟩ := Oper.apart_spec hap
  have hwi : ∀ (a : Act) u, Region.wanted oi (yielded ops (a.put oj.dst u).tmps) = Region.wanted oi (yielded ops a.tmps) := fun a u => wanted_put oi a oj.dst u h3
  have hwj : ∀ (a : Act) u, Region.wanted oj (yielded ops (a.put oi.dst u).tmps) = Region.wanted oj (yielded ops a.tmps) := fun a u => wanted_put oj a oi.dst u h1
  have hcom : ∀ (a : Act) v u, (a.put oi.dst v).put oj.dst u = (a.put oj.dst u).put oi.dst v := fun a v u => Act.put_comm a v u h2
  have hfj : ∀ ds v, hv j = some ds → factsOf Ψ ds (upd f i v) = factsOf Ψ ds f := fun ds v e => by
    funext W
    unfold factsOf
    apply propext
    constructor
    · intro hh k hk; have := hh k hk; rwa [upd_other _ _ (fun e' : k = i => hdj ds e (by rw [← e']; exact hk))] at this
    · intro hh k hk; rw [upd_other _ _ (fun e' : k = i => hdj ds e (by rw [← e']; exact hk))]; exact hh k hk
  have hfi : ∀ ds v, hv i = some ds → factsOf Ψ ds (upd f j v) = factsOf Ψ ds f := fun ds v e => by
    funext W
    unfold factsOf
    apply propext
    constructor
    · intro hh k hk; have := hh k hk; rwa [upd_other _ _ (fun e' : k = j => hdi ds e (by rw [← e']; exact hk))] at this
    · intro hh k hk; rw [upd_other _ _ (fun e' : k = j => hdi ds e (by rw [← e']; exact hk))]; exact hh k hk
  unfold gOp at h ⊢
  simp only [hi, hj] at h ⊢
  cases qi : hv i with
  | none =>
    simp only [qi] at h ⊢
    by_cases wi : Region.wanted oi (yielded ops a.tmps) = true
    · simp only [wi, if_true] at h
      obtain ⟨v, hy, hK⟩ := h
      cases qj : hv j with
      | none =>
        simp only [qj] at hK ⊢
        rw [hwj] at hK
        by_cases wj : Region.wanted oj (yielded ops a.tmps) = true
        · simp only [wj, if_true] at hK ⊢
          obtain ⟨u, hu, hn⟩ := hK
          refine ⟨u, (gquietAt_put hsj h1).1 hu, ?_⟩
          dsimp only
          rw [hwi]
          simp only [wi, if_true]
          exact ⟨v, (gquietAt_put hsi h3).2 hy, by rw [← hcom]; exact hn⟩
        · simp only [wj] at hK ⊢
          rw [hwi]
          simp only [wi, if_true]
          exact ⟨v, (gquietAt_put hsi h3).2 hy, by rw [← hcom]; exact hK⟩
      | some ds =>
        simp only [qj] at hK ⊢
        rw [hwj] at hK
        refine ⟨hK.1, (gheavy_put hsj h1).1 hK.2.1, fun u => ?_⟩
        rw [hwi]
        simp only [wi, if_true]
        exact ⟨v, (gquietAt_put hsi h3).2 hy, by rw [← hcom]; exact hK.2.2 u⟩
    · simp only [wi] at h
      cases qj : hv j with
      | none =>
        simp only [qj] at h ⊢
        rw [hwj] at h
        by_cases wj : Region.wanted oj (yielded ops a.tmps) = true
        · simp only [wj, if_true] at h ⊢
          obtain ⟨u, hu, hn⟩ := h
          refine ⟨u, (gquietAt_put hsj h1).1 hu, ?_⟩
          dsimp only
          rw [hwi]
          simp only [wi]
          rw [← hcom]; exact hn
        · simp only [wj] at h ⊢
          rw [hwi]
          simp only [wi]
          rw [← hcom]; exact h
      | some ds =>
        simp only [qj] at h ⊢
        rw [hwj] at h
        refine ⟨h.1, (gheavy_put hsj h1).1 h.2.1, fun u => ?_⟩
        rw [hwi]
        simp only [wi]
        rw [← hcom]; exact h.2.2 u
  | some di =>
    simp only [qi] at h ⊢
    obtain ⟨wi, hy, hK⟩ := h
    cases qj : hv j with
    | none =>
      simp only [qj] at hK ⊢
      by_cases wj : Region.wanted oj (yielded ops a.tmps) = true
      · simp only [wj, if_true]
        have hK' : ∀ v, ∃ u, gquietAt P Le w0 oj a u ∧ K ((a.put oi.dst v).put oj.dst u) (upd f i v) := fun v => by
          have := hK v
          rw [hwj] at this
          simp only [wj, if_true] at this
          obtain ⟨u, hu, hn⟩ := this
          exact ⟨u, (gquietAt_put hsj h1).1 hu, hn⟩
        obtain ⟨u, hu, _⟩ := hK' undef
        refine ⟨u, hu, by rw [hwi]; exact wi, (gheavy_put hsi h3).2 hy, fun v => ?_⟩
        obtain ⟨u', hu', hn⟩ := hK' v
        rw [gquietAt_one hrefl hu hu', ← hcom]
        exact hn
      · simp only [wj]
        refine ⟨by rw [hwi]; exact wi, (gheavy_put hsi h3).2 hy, fun v => ?_⟩
        have := hK v
        rw [hwj] at this
        simp only [wj] at this
        rw [← hcom]; exact this
    | some dj =>
      simp only [qj] at hK ⊢
      have k0 := hK undef
      rw [hwj, hfj dj undef qj] at k0
      refine ⟨k0.1, (gheavy_put hsj h1).1 k0.2.1, fun u => ⟨by rw [hwi]; exact wi, ?_, fun v => ?_⟩⟩
      · rw [hfi di u qi]; exact (gheavy_put hsi h3).2 hy
      · have := (hK v).2.2 u
        rw [upd_comm f v u (Ne.symm hij), hcom] at this
        exact this

theorem wpAnyG_weaken {n : Nat → Bool} {L L' : Array Bool → Act → (Nat → Value) → Prop} (h : ∀ listed a f, L listed a f → L' listed a f) : ∀ (F : Nat) (listed : Array Bool) (a : Act) (f : Nat → Value), wpAnyG P md ops Le w0 Ψ hv n L F listed a f → wpAnyG P md ops Le w0 Ψ hv n L' F listed a f
  | 0, _, _, _, hh => h _ _ _ hh
  | F + 1, _, _, _, hh => ⟨hh.1, fun i hi => ⟨(hh.2 i hi).1, gOp_mono (fun a' f' h' => wpAnyG_weaken h F _ a' f' h') (hh.2 i hi).2⟩⟩
theorem getD_false_of {listed : Array Bool} {i : Nat} (h : listed.getD i true = false) : listed.getD i false = false := getD_both h
structure GInv (md : Region.Mode) (ops : Array Oper) (listed : Array Bool) : Prop where
  size : listed.size = ops.size
  closed : ∀ j oj, ops[j]? = some oj → listed.getD j false = true → ∀ e ∈ oj.after, Region.binds md e = true → listed.getD e.on false = true
theorem GInv.set {i : Nat} {listed : Array Bool} (inv : GInv md ops listed) (hi : i ∈ Region.ready md ops listed) : GInv md ops (listed.setIfInBounds i true) := by
  obtain ⟨_, oi, hoi, hall⟩ := mem_ready.1 hi
  refine ⟨by simp [inv.size], fun j oj hj hl e he hb => ?_⟩
  by_cases hij : i = j
  · subst hij
    have : oj = oi := Option.some.inj (hj.symm.trans hoi)
    subst this
    exact getD_set_true (hall e he hb)
  · rw [getD_set_ne false hij] at hl
    exact getD_set_true (inv.closed j oj hj hl e he hb)
/-- t waits for i, by way of others -/
def reachB (md : Region.Mode) (ops : Array Oper) : Nat → Nat → Nat → Bool
  | 0, _, _ => false
  | F + 1, t, i => Region.waitsFor md ops t i || (List.range ops.size).any fun j => Region.waitsFor md ops t j && reachB md ops F j i
theorem reach_listed {listed : Array Bool} (inv : GInv md ops listed) : ∀ (F t i : Nat), reachB md ops F t i = true → (∀ o, ops[t]? = some o → ∀ e ∈ o.after, Region.binds md e = true → listed.getD e.on false = true) → listed.getD i false = true
  | 0, _, _, h, _ => by cases h
  | F + 1, t, i, h, hall => by
    simp only [reachB, Bool.or_eq_true] at h
    rcases h with h | h
    · obtain ⟨o, ho, e, he, hb, hon⟩ := Region.waitsFor_spec h
      rw [← hon]; exact hall o ho e he hb
    · obtain ⟨j, _, hj⟩ := List.any_eq_true.1 h
      simp only [Bool.and_eq_true] at hj
      obtain ⟨o, ho, e, he, hb, hon⟩ := Region.waitsFor_spec hj.1
      have hl : listed.getD j false = true := by rw [← hon]; exact hall o ho e he hb
      exact reach_listed inv F j i hj.2 fun o' ho' e' he' hb' => inv.closed j o' ho' hl e' he' hb'
def sinkT (md : Region.Mode) (ops : Array Oper) (n : Nat → Bool) : Bool := (List.range ops.size).all fun t => n t || (List.range ops.size).all fun i => !n i || reachB md ops ops.size t i
theorem sink_spec {n : Nat → Bool} (hs : sinkT md ops n = true) {listed : Array Bool} (inv : GInv md ops listed) {i j : Nat} (hi : i < ops.size) (hin : n i = true) (hun : listed.getD i true = false) (hj : j ∈ Region.ready md ops listed) : n j = true := by
  obtain ⟨_, oj, hoj, hall⟩ := mem_ready.1 hj
  have hjs : j < ops.size := (Array.getElem?_eq_some_iff.1 hoj).1
  have h1 := List.all_eq_true.1 hs j (List.mem_range.2 hjs)
  simp only [Bool.or_eq_true] at h1
  rcases h1 with h1 | h1
  · exact h1
  · have h2 := List.all_eq_true.1 h1 i (List.mem_range.2 hi)
    simp only [hin, Bool.not_true, Bool.false_or] at h2
    have h3 := reach_listed inv _ _ _ h2 (fun o ho e he hb => by
      have : o = oj := Option.some.inj (ho.symm.trans hoj)
      subst this
      exact hall e he hb)
    rw [getD_both hun] at h3
    cases h3
theorem wpAnyG_first (hrefl : Le w0 w0) (hd : depsB md ops hv = true) {n : Nat → Bool} {i : Nat} {oi : Oper} {L : Array Bool → Act → (Nat → Value) → Prop} (hi : ops[i]? = some oi) (hsel : ∀ (j : Nat) (o : Oper) cs b, ops[j]? = some o → o.op ≠ .select cs b)
    (hs : sinkT md ops n = true) (hin : n i = true) (hLk : ∀ listed a f, L listed a f → ∀ j ∈ Region.ready md ops listed, n j = false) :
    ∀ (F : Nat) (listed : Array Bool) (a : Act) (f : Nat → Value), GInv md ops listed →
      (∀ j oj, ops[j]? = some oj → j ≠ i → listed.getD j true = false → (∀ e ∈ oj.after, Region.binds md e = true → e.on ≠ i) → oi.apart ops oj = true) →
      i ∈ Region.ready md ops listed → gOp P ops Le w0 Ψ hv i (wpAnyG P md ops Le w0 Ψ hv n L F (listed.setIfInBounds i true)) a f → wpAnyG P md ops Le w0 Ψ hv n L (F + 1) listed a f := by
  intro F
  have his : i < ops.size := (Array.getElem?_eq_some_iff.1 hi).1
  have headOnly : ∀ {listed : Array Bool} {j : Nat}, GInv md ops listed → listed.getD i true = false → j ∈ Region.ready md ops listed → n j = true := fun {listed j} inv hun hj => sink_spec hs inv his hin hun hj
  have gsome : ∀ {K : Act → (Nat → Value) → Prop} {a : Act} {f : Nat → Value}, gOp P ops Le w0 Ψ hv i K a f → ∃ a' f', K a' f' := fun {K a f} h => by
    unfold gOp at h
    simp only [hi] at h
    cases q : hv i with
    | none =>
      simp only [q] at h
      by_cases wi : Region.wanted oi (yielded ops a.tmps) = true
      · simp only [wi, if_true] at h; obtain ⟨v, _, h2⟩ := h; exact ⟨_, _, h2⟩
      · simp only [wi] at h; exact ⟨_, _, h⟩
    | some ds => simp only [q] at h; exact ⟨_, _, h.2.2 undef⟩
  induction F with
  | zero =>
    intro listed a f inv hfree hr H
    refine ⟨fun h => (by rw [h] at hr; cases hr), fun j hj => ?_⟩
    have hjn := headOnly inv (mem_ready.1 hr).1 hj
    refine ⟨hjn, ?_⟩
    by_cases hji : j = i
    · subst hji; exact H
    · exfalso
      obtain ⟨a', f', hL⟩ := gsome H
      have := hLk _ _ _ hL j (ready_mono hj hji)
      rw [hjn] at this
      cases this
  | succ F ih =>
    intro listed a f inv hfree hr H
    refine ⟨fun h => (by rw [h] at hr; cases hr), fun j hj => ?_⟩
    have hjn := headOnly inv (mem_ready.1 hr).1 hj
    refine ⟨hjn, ?_⟩
    by_cases hji : j = i
    · subst hji; exact H
    · obtain ⟨hjun, oj, hoj, hall⟩ := mem_ready.1 hj
      have hiun := (mem_ready.1 hr).1
      have hnot : ∀ e ∈ oj.after, Region.binds md e = true → e.on ≠ i := fun e he hb heq => by
        have h1 := hall e he hb
        rw [heq, getD_both hiun] at h1
        cases h1
      have hap := hfree j oj hoj hji hjun hnot
      have H1 : gOp P ops Le w0 Ψ hv i (fun a' f' => gOp P ops Le w0 Ψ hv j (wpAnyG P md ops Le w0 Ψ hv n L F ((listed.setIfInBounds i true).setIfInBounds j true)) a' f') a f :=
        gOp_mono (fun a' f' h => (h.2 j (ready_mono hj hji)).2) H
      have H2 := gOp_swap hrefl hji hi hoj hap (fun cs b => hsel i oi cs b hi) (fun cs b => hsel j oj cs b hoj)
        (fun ds e hm => by have := deps_listed hd hr e hm; rw [getD_both hjun] at this; cases this)
        (fun ds e hm => by have := deps_listed hd hj e hm; rw [getD_both hiun] at this; cases this) H1
      have hfree' : ∀ k ok, ops[k]? = some ok → k ≠ i → (listed.setIfInBounds j true).getD k true = false →
          (∀ e ∈ ok.after, Region.binds md e = true → e.on ≠ i) → oi.apart ops ok = true := fun k ok hk hki hun hno => by
        refine hfree k ok hk hki ?_ hno
        by_cases hjk : j = k
        · subst hjk; exact hjun
        · rw [getD_set_ne true hjk] at hun; exact hun
      refine gOp_mono (fun a' f' h => ih (listed.setIfInBounds j true) a' f' (inv.set hj) hfree' (ready_mono hr (Ne.symm hji)) ?_) H2
      rw [Array.setIfInBounds_comm _ _ hji]
      exact h

/-- the tail: one behind the other -/
def seqT (md : Region.Mode) (ops : Array Oper) : List Nat → Array Bool → Bool
  | [], listed => (Region.ready md ops listed).isEmpty
  | t :: ts, listed => decide (Region.ready md ops listed = [t]) && seqT md ops ts (listed.setIfInBounds t true)
def ordHead (md : Region.Mode) (ops : Array Oper) (tail : List Nat) : List Nat → Array Bool → Bool
  | [], listed => seqT md ops tail listed
  | i :: hd, listed => (Region.ready md ops listed).contains i && Region.free md ops listed i && ordHead md ops tail hd (listed.setIfInBounds i true)
def pickOps (l : List Oper) : List Nat → List (Nat × Oper)
  | [] => []
  | i :: is => match l[i]? with
    | some o => (i, o) :: pickOps l is
    | none => pickOps l is
theorem seqT_ready {tail : List Nat} {n : Nat → Bool} (hn : ∀ t ∈ tail, n t = false) {listed : Array Bool} (h : seqT md ops tail listed = true) : ∀ j ∈ Region.ready md ops listed, n j = false := by
  cases tail with
  | nil => intro j hj; simp only [seqT, List.isEmpty_iff] at h; rw [h] at hj; cases hj
  | cons t ts =>
    intro j hj
    simp only [seqT, Bool.and_eq_true, decide_eq_true_eq] at h
    rw [h.1] at hj
    have : j = t := by simpa using hj
    rw [this]
    exact hn t (by simp)
theorem wpAny_of_seqT {l : List Oper} {Q : Exit → Act → World → Prop} : ∀ (ts : List Nat) (listed : Array Bool) (a : Act) (w : World), seqT md l.toArray ts listed = true → wpList P l.toArray Q ((pickOps l ts).map (·.2)) a w → wpAny P md l.toArray Q ts.length listed a w
  | [], _, _, _, hB, h => ⟨by simpa [seqT] using hB, h⟩
  | t :: ts, listed, a, w, hB, h => by
    simp only [seqT, Bool.and_eq_true, decide_eq_true_eq] at hB
    refine ⟨fun h1 => (by rw [hB.1] at h1; cases h1), fun i hi => ?_⟩
    have hi0 := hi
    rw [hB.1] at hi
    have hik : i = t := by simpa using hi
    subst hik
    obtain ⟨_, o, ho, _⟩ := mem_ready.1 hi0
    have ho' : l[i]? = some o := by simpa using ho
    have hp : pickOps l (i :: ts) = (i, o) :: pickOps l ts := by simp only [pickOps, ho']
    rw [hp, List.map_cons] at h
    have hw : wpOp P l.toArray Q i (wpList P l.toArray Q ((pickOps l ts).map (·.2))) a w := by unfold wpOp; simp only [ho]; exact h
    exact wpOp_mono (fun a' w' h' => wpAny_of_seqT ts _ a' w' hB.2 h') hw
theorem wpAnyG_lex (hrefl : Le w0 w0) {l : List Oper} (hd : depsB md l.toArray hv = true) {n : Nat → Bool} {tail : List Nat} {R : Act → (Nat → Value) → Prop} (hsel : Region.noSelect l.toArray = true) (hs : sinkT md l.toArray n = true) (hnt : ∀ t ∈ tail, n t = false) :
    ∀ (hd' : List Nat) (listed : Array Bool) (a : Act) (f : Nat → Value), (∀ i ∈ hd', n i = true) → GInv md l.toArray listed → ordHead md l.toArray tail hd' listed = true → wpG P l.toArray Le w0 Ψ hv R (pickOps l hd') a f →
    wpAnyG P md l.toArray Le w0 Ψ hv n (fun listed' a' f' => seqT md l.toArray tail listed' = true ∧ R a' f' ∧ (∀ i ∈ hd', listed'.getD i false = true) ∧ (∀ i, listed.getD i false = true → listed'.getD i false = true)) hd'.length listed a f
  | [], listed, a, f, _, _, hB, h => ⟨by simpa [ordHead] using hB, h, fun i hi => (by cases hi), fun i h => h⟩
  | k :: hd', listed, a, f, hn, inv, hB, h => by
    simp only [ordHead, Bool.and_eq_true] at hB
    obtain ⟨⟨hr, hf⟩, hB'⟩ := hB
    have hr' : k ∈ Region.ready md l.toArray listed := by simpa using hr
    obtain ⟨_, o, h0, _⟩ := mem_ready.1 hr'
    have h0' : l[k]? = some o := by simpa using h0
    have hp : pickOps l (k :: hd') = (k, o) :: pickOps l hd' := by simp only [pickOps, h0']
    rw [hp] at h
    have hks : k < listed.size := by rw [inv.size]; exact (Array.getElem?_eq_some_iff.1 h0).1
    have hself : (listed.setIfInBounds k true).getD k false = true := by simp [hks]
    have hg : gOp P l.toArray Le w0 Ψ hv k (wpG P l.toArray Le w0 Ψ hv R (pickOps l hd')) a f := by
      unfold gOp
      simp only [h0]
      unfold wpG at h
      exact h
    refine wpAnyG_first hrefl hd h0 (Region.noSelect_spec hsel) hs (hn k (by simp)) (fun listed' a' f' hL => seqT_ready hnt hL.1) hd'.length listed a f inv (Region.free_spec h0 hf) hr' (gOp_mono (fun a' f' h' => ?_) hg)
    have IH := wpAnyG_lex hrefl hd hsel hs hnt hd' _ a' f' (fun i hi => hn i (List.mem_cons_of_mem _ hi)) (inv.set hr') hB' h'
    refine wpAnyG_weaken (fun listed' a' f' hh => ⟨hh.1, hh.2.1, fun i hi => ?_, fun i hi => hh.2.2.2 i (getD_set_true hi)⟩) _ _ _ _ IH
    rcases List.mem_cons.1 hi with e | hi
    · subst e; exact hh.2.2.2 i hself
    · exact hh.2.2.1 i hi
def growB (md : Region.Mode) (ops : Array Oper) (hd tail : List Nat) : Bool :=
  Region.noSelect ops && decide (hd.length + tail.length = ops.size) && sinkT md ops (fun i => hd.contains i) && tail.all (fun t => !hd.contains t) && ordHead md ops tail hd (Array.replicate ops.size false)
/-- one walk serves every order: hd: the operations that let memory grow, in one order; tail: those behind all others -/
theorem wp_region_grow {id : Nat} {Q : Exit → Act → World → Prop} {a : Act} {w : World} {l : List Oper} (hd tail : List Nat) (Le : World → World → Prop) (Ψ : Nat → Value → World → Prop) (hv : Nat → Option (List Nat)) (hm : P.follows .mixedOrders = true) (hB : growB .any l.toArray hd tail = true)
    (hdep : depsB .any l.toArray hv = true) (law : Lawful Le Ψ) (hrefl : Le w.drew w.drew)
    (h : wpG P l.toArray Le w.drew Ψ hv (fun a' f => ∀ p : LaterG Le w.drew, (∀ h ds, h ∈ hd → hv h = some ds → Ψ h (f h) p.W) → wpList P l.toArray Q ((pickOps l tail).map (·.2)) a' p.W) (pickOps l hd) a (fun _ => undef)) : (Code.region id l.toArray true).wp P Q a w := by
  simp only [growB, Bool.and_eq_true, decide_eq_true_eq] at hB
  obtain ⟨⟨⟨⟨hsel, hlen⟩, hs⟩, hnt⟩, hord⟩ := hB
  have hnt' : ∀ t ∈ tail, (fun i => hd.contains i) t = false := fun t ht => by
    have := List.all_eq_true.1 hnt t ht
    simpa using this
  have inv0 : GInv .any l.toArray (Array.replicate l.toArray.size false) := ⟨by simp, fun j oj _ hl => (by rw [getD_replicate_false] at hl; cases hl)⟩
  have H := wpAnyG_lex (md := .any) (l := l) (n := fun i => hd.contains i) hrefl hdep hsel hs hnt' hd _ a _ (fun i hi => by simpa using hi) inv0 hord h
  refine wp_region_any hm ?_
  have := wpAny_of_G (Q := Q) (g := tail.length) law hdep (fun listed a' f W hL hW hF => wpAny_of_seqT (md := .any) (Q := Q) tail listed a' W hL.1 (hL.2.1 ⟨W, hW⟩ (fun h ds hn e => hF h ds e (hL.2.2.1 h hn)))) _ _ _ _ w.drew H hrefl (fun h ds _ hl => by rw [getD_replicate_false] at hl; cases hl)
  rw [hlen] at this
  exact this
section
variable {R : Act → (Nat → Value) → Prop} {o : Oper} {rest : List (Nat × Oper)} {k : Nat} {a : Act} {f : Nat → Value}
theorem wpG_nil (h : R a f) : wpG P ops Le w0 Ψ hv R [] a f := h
theorem wpG_step (hk : hv k = none) (h : ∀ K : Act → Prop, (∀ a', wpG P ops Le w0 Ψ hv R rest a' f → K a') → if Region.wanted o (yielded ops a.tmps) = true then gquiet P Le w0 o a K else K (a.put o.dst undef)) : wpG P ops Le w0 Ψ hv R ((k, o) :: rest) a f := by
  unfold wpG
  simp only [hk]
  exact h _ (fun _ h => h)
theorem wpG_skip (hk : hv k = none) (hw : Region.wanted o (yielded ops a.tmps) = false) (h : wpG P ops Le w0 Ψ hv R rest (a.put o.dst undef) f) : wpG P ops Le w0 Ψ hv R ((k, o) :: rest) a f := by
  unfold wpG
  simp only [hk, hw]
  exact h
theorem wpG_heavy {ds : List Nat} (hk : hv k = some ds) (hw : Region.wanted o (yielded ops a.tmps) = true) (h : ∀ p : LaterG Le w0, factsOf Ψ ds f p.W → growUpon P Le (Ψ k) p.W ((execOp a.eval o).run P p.W))
    (hn : ∀ v, wpG P ops Le w0 Ψ hv R rest (a.put o.dst v) (upd f k v)) : wpG P ops Le w0 Ψ hv R ((k, o) :: rest) a f := by
  unfold wpG
  simp only [hk]
  exact ⟨hw, h, hn⟩
end
end
/-- memory has grown -/
def LeB (w w' : World) : Prop := Below w.heap.size w w'
theorem leB_refl (w : World) : LeB w w := Below.refl _ _
theorem leB_true (w : World) : LeB w w ↔ True := ⟨fun _ => trivial, fun _ => leB_refl w⟩
theorem LeB.trans {a b c : World} (h : LeB a b) (h' : LeB b c) : LeB a c := Below.trans h (Below.mono h' h.size)
instance laterGInh (w : World) : Inhabited (LaterG LeB w) := ⟨⟨w, leB_refl w⟩⟩
theorem lawfulB {Ψ : Nat → Value → World → Prop} (h : ∀ {k v W W'}, LeB W W' → Ψ k v W → Ψ k v W') : Lawful LeB Ψ := ⟨LeB.trans, h⟩
theorem LaterG.cell {w : World} (p : LaterG LeB w) {b o : Nat} {v : Value} (h : w.cell? ⟨b, o, none⟩ = some v) : p.W.cell? ⟨b, o, none⟩ = some v := below_cell p.by_ h
theorem LaterG.drewCell {w : World} (p : LaterG LeB w.drew) {b o : Nat} {v : Value} (h : w.cell? ⟨b, o, none⟩ = some v) : p.W.cell? ⟨b, o, none⟩ = some v := below_cell (w := w.drew) p.by_ h
theorem LaterG.below {w : World} (p : LaterG LeB w.drew) : Below w.heap.size w p.W := (Below.refl w.heap.size w).drew.trans p.by_
/-- a call whose contract says that memory has grown -/
theorem grow_call {P : Program} {Φ : Value → World → Prop} {W : World} {fn : FuncId} {args : Array Value} {v : Value} (h : Calls P fn args W (Gives v W)) (hp : ∀ W', LeB W W' → Φ v W') : growUpon P LeB Φ W (.ok (.enter fn args) W) :=
  ⟨leB_refl W, h.mono fun _ W' ⟨he, hb⟩ => ⟨v, he, hb, hp W' hb⟩⟩
end Go.Proofs.Ytfndjciojljkfaa

namespace Go.Proofs.Ytfndjciojljkfaa
set_option linter.unusedSimpArgs false
set_option linter.unusedVariables false
open Go.RowKit
section
variable {P : Program}
theorem run_append_zero (w : World) {t ty e : TypeId} {i : TypeInfo} (ht : P.underlying t = some (.slice e)) (hi : P.info? e = some i) (ao : Option Addr) (n cap : Nat) (xo : Option Addr) (c : Nat) (h : n ≤ cap) (hn : ao = none → n = 0 ∧ cap = 0) :
    (Builtin.append_ #[t, t] ty #[.slice ao n cap, .slice xo 0 c]).run P w = .ok (.slice ao n cap) w := by
  cases ao with
  | none =>
    obtain ⟨rfl, rfl⟩ := hn rfl
    cases xo with
    | none => simp [Builtin.append_, run_underlying ht, sizeOf, typeInfo, hi, Builtin.lenOf, Builtin.firstCells]
    | some ad =>
      have hf := run_firstCells_some (P := P) w i.size 0 ad 0 c [] (by simp) (fun j u h => by simp at h)
      simp [Builtin.append_, run_underlying ht, sizeOf, typeInfo, hi, Builtin.lenOf, hf]
  | some b =>
    cases xo with
    | none => simp [Builtin.append_, run_underlying ht, sizeOf, typeInfo, hi, Builtin.lenOf, Builtin.firstCells, h, storeCells]
    | some ad =>
      have hf := run_firstCells_some (P := P) w i.size 0 ad 0 c [] (by simp) (fun j u h => by simp at h)
      simp [Builtin.append_, run_underlying ht, sizeOf, typeInfo, hi, Builtin.lenOf, hf, h, storeCells]
/-- what an append to a full row leaves -/
structure Full (F : Nat → Prop) (w : World) (xs : List Value) (n : Nat) (v : Value) (w' : World) : Prop where
  by_ : Below w.heap.size w w'
  form : ∃ ao cap, v = .slice ao n cap ∧ n ≤ cap ∧ (ao = none → n = 0 ∧ cap = 0) ∧ ∀ j u, xs[j]? = some u → ∃ b off, ao = some ⟨b, off, none⟩ ∧ F b ∧ b < w'.heap.size ∧ w'.cell? ⟨b, off + j, none⟩ = some u
theorem grown_below {w w' : World} (h : w.grownBy w' none) : Below w.heap.size w w' := ⟨h.os, h.tape, h.output, h.size, fun k hk => h.block k hk (by simp)⟩
theorem own_full {F : Nat → Prop} {w w' : World} {base : Nat} {e : TypeId} {size n : Nat} {v : Value} {xs : List Value} (h : w'.ownsRow base e size v n xs) (hb : Below w.heap.size w w') (hF : ∀ b, base ≤ b → F b) : Full F w xs n v w' := by
  refine ⟨hb, ?_⟩
  have hlt := h.lt
  have hcells := fun g hg => h.cells (g := g) hg
  rcases h.2 with ⟨hv, hn⟩ | ⟨gb, cap, cur, hv, _, _, h4, _⟩
  · have hx : xs = [] := List.eq_nil_of_length_eq_zero (by rw [h.1, hn]; simp)
    subst hx hn
    exact ⟨none, 0, hv, Nat.le_refl _, fun _ => ⟨rfl, rfl⟩, fun j u hu => by simp at hu⟩
  · have ho : v.ownBlock = some gb := by rw [hv]; rfl
    refine ⟨_, cap, hv, h4, fun e => (by cases e), fun j u hu => ⟨gb, 0, rfl, hF gb (hlt gb ho).1, (hlt gb ho).2, ?_⟩⟩
    have := hcells gb ho j u hu
    rw [Nat.zero_add]
    by_cases hj : j = 0
    · subst hj; simpa [Addr.add] using this
    · simpa [Addr.add, hj] using this
theorem run_append_full (F : Nat → Prop) (w : World) {t ty e : TypeId} {z : Value} {size bytes : Nat} (E : Elem P t e z size bytes) (ao : Option Addr) (n cap : Nat) (olds : List Value) (hcap : cap = n) (hnone : ao = none → n = 0) (hlo : olds.length = n * size)
    (holds : ∀ j u, olds[j]? = some u → ∃ b off, ao = some ⟨b, off, none⟩ ∧ F b ∧ b < w.heap.size ∧ w.cell? ⟨b, off + j, none⟩ = some u) (hF : ∀ b, w.heap.size ≤ b → F b)
    (xv : Value) (m : Nat) (news : List Value) (hS : Source P t t size w xv m news) (b1 : n + m ≤ maxLen) (b2 : (n + m) * bytes ≤ 140737488355328) :
    ∃ v' w', (Builtin.append_ #[t, t] ty #[.slice ao n cap, xv]).run P w = .ok v' w' ∧ Full F w (olds ++ news) (n + m) v' w' := by
  subst hcap
  obtain ⟨i, hi, hz, hsz, hby⟩ := info_parts E.info
  have hzero : ∀ xo c, (∃ v' w', (Builtin.append_ #[t, t] ty #[.slice ao cap cap, .slice xo 0 c]).run P w = .ok v' w' ∧ Full F w (olds ++ []) (cap + 0) v' w') := fun xo c => by
    refine ⟨_, _, run_append_zero w E.ht hi ao cap cap xo c (Nat.le_refl _) (fun h => ⟨hnone h, hnone h⟩), Below.refl _ _, ao, cap, rfl, Nat.le_refl _, fun h => ⟨hnone h, hnone h⟩, fun j u hu => ?_⟩
    rw [List.append_nil] at hu
    exact holds j u hu
  have holds' : ∀ ad, ao = some ad → ∀ j u, olds[j]? = some u → w.cell? (ad.add j) = some u := fun ad e j u hu => by
    obtain ⟨b, off, e', _, _, hc⟩ := holds j u hu
    rw [e'] at e
    cases e
    by_cases hj : j = 0
    · subst hj; simpa [Addr.add] using hc
    · simpa [Addr.add, hj] using hc
  rcases hS with ⟨ad, c, rfl, _, hl, hnews, h1⟩ | ⟨⟨c, rfl⟩, rfl, rfl, _⟩ | ⟨s, rfl, rfl, rfl, hu, h1⟩
  · by_cases hm : m = 0
    · subst hm
      have : news = [] := List.eq_nil_of_length_eq_zero (by simpa using hl)
      subst this
      exact hzero _ _
    · cases ao with
      | none =>
        have hn := hnone rfl
        subst hn
        have : olds = [] := List.eq_nil_of_length_eq_zero (by simpa using hlo)
        subst this
        obtain ⟨v', w', hrun, r1, r2, _⟩ := run_append_own (P := P) w w.heap.size t ty e i z size bytes E.ht hi hz hsz hby E.hzs E.pos (.slice none 0 0) 0 [] (World.ownsRow_nil w _ e size) ad m c news hl hnews h1 b1 b2 (Nat.le_refl _)
        exact ⟨v', w', hrun, own_full r1 (grown_below r2) hF⟩
      | some b =>
        obtain ⟨v', w', hrun, r1, r2⟩ := run_append_arg_grows (P := P) w t ty e i z size bytes E.ht hi hz hsz hby E.hzs E.pos b cap cap olds hlo (holds' b rfl) ad m c news hl hnews (by omega) b1 b2
        exact ⟨v', w', hrun, own_full r1 (grown_below r2) hF⟩
  · exact hzero _ _
  · exfalso
    rw [E.ht] at hu
    cases hu
section
variable {w : World} {a : Act} {ops : Array Oper} {rest : List Oper} {o : Oper} {Q : Exit → Act → World → Prop}
theorem wpList_full {F : Nat → Prop} (hgd : o.guard = none) (s x : Operand) {t e : TypeId} {z : Value} {size bytes : Nat} (ho : o.op = .call { callee := .builtin .append, args := #[s, x], argTypes := #[t, t] }) (E : Elem P t e z size bytes)
    (ao : Option Addr) (n cap : Nat) (olds : List Value) (hs : a.eval s = .slice ao n cap) (hcap : cap = n) (hnone : ao = none → n = 0) (hlo : olds.length = n * size)
    (holds : ∀ j u, olds[j]? = some u → ∃ b off, ao = some ⟨b, off, none⟩ ∧ F b ∧ b < w.heap.size ∧ w.cell? ⟨b, off + j, none⟩ = some u) (hF : ∀ b, w.heap.size ≤ b → F b)
    (xv : Value) (m : Nat) (news : List Value) (hx : a.eval x = xv) (hS : Source P t t size w xv m news) (b1 : n + m ≤ maxLen) (b2 : (n + m) * bytes ≤ 140737488355328)
    (h : ∀ v' w', Full F w (olds ++ news) (n + m) v' w' → wpList P ops Q rest (a.put o.dst v') w') : wpList P ops Q (o :: rest) a w := by
  refine wpList_plain hgd fun _ hK => ?_
  obtain ⟨v', w', hr, h2⟩ := run_append_full (P := P) F w (ty := o.type) E ao n cap olds hcap hnone hlo holds hF xv m news hS b1 b2
  unfold Oper.wp execOp
  simp only [ho, resolve, invoke, builtin, Sem.run_bind, Sem.run_pure, Result.andThen_ok, List.map_toArray, List.map_cons, List.map_nil, hs, hx, hr]
  exact hK _ _ (h v' w' h2)
theorem step_full {F : Nat → Prop} {K : Act → World → Prop} {E' : Prop} (hgd : o.guard = none) (s x : Operand) {t e : TypeId} {z : Value} {size bytes : Nat} (ho : o.op = .call { callee := .builtin .append, args := #[s, x], argTypes := #[t, t] }) (E : Elem P t e z size bytes)
    (ao : Option Addr) (n cap : Nat) (olds : List Value) (hs : a.eval s = .slice ao n cap) (hcap : cap = n) (hnone : ao = none → n = 0) (hlo : olds.length = n * size)
    (holds : ∀ j u, olds[j]? = some u → ∃ b off, ao = some ⟨b, off, none⟩ ∧ F b ∧ b < w.heap.size ∧ w.cell? ⟨b, off + j, none⟩ = some u) (hF : ∀ b, w.heap.size ≤ b → F b)
    (xv : Value) (m : Nat) (news : List Value) (hx : a.eval x = xv) (hS : Source P t t size w xv m news) (b1 : n + m ≤ maxLen) (b2 : (n + m) * bytes ≤ 140737488355328)
    (h : ∀ v' w', Full F w (olds ++ news) (n + m) v' w' → K (a.put o.dst v') w') :
    if Region.wanted o (yielded ops a.tmps) = true then Oper.wp P o a w K Q else E' := by
  have hw : Region.wanted o (yielded ops a.tmps) = true := by simp [Region.wanted, hgd]
  rw [if_pos hw]
  obtain ⟨v', w', hr, h2⟩ := run_append_full (P := P) F w (ty := o.type) E ao n cap olds hcap hnone hlo holds hF xv m news hS b1 b2
  unfold Oper.wp execOp
  simp only [ho, resolve, invoke, builtin, Sem.run_bind, Sem.run_pure, Result.andThen_ok, List.map_toArray, List.map_cons, List.map_nil, hs, hx, hr]
  exact h v' w' h2
end
variable {α : Type} {sz : Nat} {R : RepT α}
/-- the blocks of a kind that there are -/
def InF (F : Nat → Prop) (w : World) : Nat → Prop := fun b => F b ∧ b < w.heap.size
theorem inF_below {F : Nat → Prop} {w w' : World} (hb : Below w.heap.size w w') : (∀ b, InF F w b → InF F w' b) ∧ (∀ b, InF F w b → w'.heap[b]? = w.heap[b]?) :=
  ⟨fun b h => ⟨h.1, Nat.lt_of_lt_of_le h.2 hb.size⟩, fun b h => hb.block b h.2⟩
/-- a row, as the cells of an append's first operand -/
theorem RRow.olds {F : Nat → Prop} {w : World} {l : List α} {a : Option Addr} (g : Good sz R) (h : RRow sz R (InF F w) w l a) :
    ∃ xs, CellsL R (InF F w) w l xs ∧ ∀ j u, xs[j]? = some u → ∃ b off, a = some ⟨b, off, none⟩ ∧ F b ∧ b < w.heap.size ∧ w.cell? ⟨b, off + j, none⟩ = some u := by
  cases l with
  | nil => exact ⟨[], rfl, fun j u hu => by simp at hu⟩
  | cons x l =>
    obtain ⟨b, off, cs, e, hb, _⟩ := h 0 (by simp)
    subst e
    obtain ⟨xs, h1, h2⟩ := RRow.cells (off := off) (b := b) g h
    exact ⟨xs, h1, fun j u hu => ⟨b, off, rfl, hb.1, hb.2, h2 j u hu⟩⟩
/-- what came out, as a row -/
theorem Full.row {F : Nat → Prop} {w w' : World} {l : List α} {xs : List Value} {v : Value} (g : Good sz R) (hpos : 0 < sz) (hf : Full F w xs l.length v w') (h : CellsL R (InF F w) w l xs) : ∃ ao cap, v = .slice ao l.length cap ∧ l.length ≤ cap ∧ (ao = none → l.length = 0 ∧ cap = 0) ∧ RRow sz R (InF F w') w' l ao := by
  obtain ⟨ao, cap, hv, h1, h2, h3⟩ := hf.form
  refine ⟨ao, cap, hv, h1, h2, ?_⟩
  have hcl := h.keep (F' := InF F w') (w' := w') g (inF_below hf.by_).1 (inF_below hf.by_).2
  cases l with
  | nil => exact RRow.nil _
  | cons x l =>
    cases hx : xs with
    | nil =>
      have h9 := h.len g
      rw [hx, List.length_cons, Nat.add_mul] at h9
      simp at h9
      omega
    | cons u us =>
      obtain ⟨b, off, e, hF, hb, _⟩ := h3 0 u (by rw [hx]; rfl)
      subst e
      have hnb : InF F w' b := ⟨hF, hb⟩
      refine hcl.row g hnb (fun j u hu => ?_)
      obtain ⟨b', off', e, _, _, hc⟩ := h3 j u hu
      cases e
      exact hc
/-- what the heavy operations of a region leave, by their numbers -/
def tbl : List (Nat × (Value → World → Prop)) → Nat → Value → World → Prop
  | [], _ => fun _ _ => True
  | e :: l, k => if k = e.1 then e.2 else tbl l k
def hvOf : List (Nat × List Nat) → Nat → Option (List Nat)
  | [], _ => none
  | e :: l, k => if k = e.1 then some e.2 else hvOf l k
def StableV (A : Value → World → Prop) : Prop := ∀ {v : Value} {W W' : World}, LeB W W' → A v W → A v W'
theorem lawful_nil : Lawful LeB (tbl []) := lawfulB fun _ _ => trivial
theorem lawful_cons {i : Nat} {A : Value → World → Prop} {l : List (Nat × (Value → World → Prop))} (hA : StableV A) (hl : Lawful LeB (tbl l)) : Lawful LeB (tbl ((i, A) :: l)) := lawfulB fun {k v W W'} h h1 => by
  unfold tbl at h1 ⊢
  split
  · rename_i e; rw [if_pos e] at h1; exact hA h h1
  · rename_i e; rw [if_neg e] at h1; exact hl.stable h h1
/-- a block of its own, as a slice of one element -/
def OneAt (cs : Array Value) (t : TypeId) (n : Nat) (v : Value) (W : World) : Prop := ∃ g, v = .slice (some ⟨g, 0, none⟩) n n ∧ Box W g cs t
theorem oneAt_stable (cs : Array Value) (t : TypeId) (n : Nat) : StableV (OneAt cs t n) := fun h ⟨g, e, hb⟩ => ⟨g, e, hb.below h⟩
theorem oneAt_new (W : World) (cs : Array Value) (t : TypeId) (n : Nat) : OneAt cs t n (.slice (some ⟨W.heap.size, 0, none⟩) n n) (W.alloc (.cells cs t)) := ⟨W.heap.size, rfl, Box.new W cs t⟩
theorem OneAt.source {t e : TypeId} {size n : Nat} {cs : Array Value} {v : Value} {W : World} (h : OneAt cs e n v W) (hl : cs.toList.length = n * size) (h1 : ∀ u ∈ cs.toList, u.oneCell' = true) : Source P t t size W v n cs.toList := by
  obtain ⟨g, rfl, hb⟩ := h
  exact Source.cells _ _ _ _ rfl hl (World.news_of_block (cs := cs) (t := e) (fr := (0, 0)) hb) h1
/-- a row as a slice's value; F: in which blocks -/
def RowF {α : Type} (sz : Nat) (R : RepT α) (F : Nat → Prop) (l : List α) (v : Value) (W : World) : Prop := ∃ ao cap, v = .slice ao l.length cap ∧ l.length ≤ cap ∧ (ao = none → l.length = 0 ∧ cap = 0) ∧ RRow sz R (InF F W) W l ao
theorem rowF_stable (g : Good sz R) (F : Nat → Prop) (l : List α) : StableV (RowF sz R F l) := fun h ⟨ao, cap, e, h1, h2, h3⟩ => ⟨ao, cap, e, h1, h2, h3.keep g (inF_below h).1 (inF_below h).2⟩
theorem isVal_stable (u : Value) : StableV (fun v _ => v = u) := fun _ h => h
theorem grow_full {F : Nat → Prop} {a : Act} {o : Oper} {W : World} {Φ : Value → World → Prop} (s x : Operand) {t e : TypeId} {z : Value} {size bytes : Nat} (ho : o.op = .call { callee := .builtin .append, args := #[s, x], argTypes := #[t, t] }) (E : Elem P t e z size bytes)
    (ao : Option Addr) (n cap : Nat) (olds : List Value) (hs : a.eval s = .slice ao n cap) (hcap : cap = n) (hnone : ao = none → n = 0) (hlo : olds.length = n * size)
    (holds : ∀ j u, olds[j]? = some u → ∃ b off, ao = some ⟨b, off, none⟩ ∧ F b ∧ b < W.heap.size ∧ W.cell? ⟨b, off + j, none⟩ = some u) (hF : ∀ b, W.heap.size ≤ b → F b)
    (xv : Value) (m : Nat) (news : List Value) (hx : a.eval x = xv) (hS : Source P t t size W xv m news) (b1 : n + m ≤ maxLen) (b2 : (n + m) * bytes ≤ 140737488355328)
    (h : ∀ v' w', Full F W (olds ++ news) (n + m) v' w' → Φ v' w') : growUpon P LeB Φ W ((execOp a.eval o).run P W) := by
  obtain ⟨v', w', hr, h2⟩ := run_append_full (P := P) F W (ty := o.type) E ao n cap olds hcap hnone hlo holds hF xv m news hS b1 b2
  unfold execOp
  simp only [ho, resolve, invoke, builtin, Sem.run_bind, Sem.run_pure, Result.andThen_ok, List.map_toArray, List.map_cons, List.map_nil, hs, hx, hr]
  exact ⟨h2.by_, h v' w' h2⟩
/-- append to a row that has no room, row by row -/
theorem grow_rows {F : Nat → Prop} {a : Act} {o : Oper} {W : World} (g : Good sz R) (hpos : 0 < sz) (s x : Operand) {t e : TypeId} {z : Value} {bytes : Nat} (ho : o.op = .call { callee := .builtin .append, args := #[s, x], argTypes := #[t, t] }) (E : Elem P t e z sz bytes)
    {l m : List α} (ao : Option Addr) (cap : Nat) (hs : a.eval s = .slice ao l.length cap) (hcap : cap = l.length) (hrow : RRow sz R (InF F W) W l ao) (hF : ∀ b, W.heap.size ≤ b → F b)
    (xv : Value) (news : List Value) (hx : a.eval x = xv) (hS : Source P t t sz W xv m.length news) (hcl : CellsL R (InF F W) W m news) (b1 : l.length + m.length ≤ maxLen) (b2 : (l.length + m.length) * bytes ≤ 140737488355328) :
    growUpon P LeB (RowF sz R F (l ++ m)) W ((execOp a.eval o).run P W) := by
  obtain ⟨xs, h1, h2⟩ := hrow.olds g
  have hnone : ao = none → l.length = 0 := fun h => by
    rcases Nat.eq_zero_or_pos l.length with h0 | h0
    · exact h0
    · obtain ⟨b, off, e⟩ := hrow.some_of h0; rw [h] at e; cases e
  refine grow_full s x ho E ao l.length cap xs hs hcap hnone (h1.len g) h2 hF xv m.length news hx hS b1 b2 fun v' w' hf => ?_
  have hf2 : Full F W (xs ++ news) (l ++ m).length v' w' := by rw [List.length_append]; exact hf
  exact hf2.row g hpos (h1.append hcl)
/-- out of blocks that were there when the call began, into those of a kind -/
theorem Good.inF {G F : Nat → Prop} {w w' : World} (g : Good sz R) (hG : ∀ b, G b → b < w.heap.size) (hF : ∀ b, G b → F b) (hb : Below w.heap.size w w') {x : α} {cs : List Value} (h : R G w x cs) : R (InF F w') w' x cs :=
  g.keep (fun b h => ⟨hF b h, Nat.lt_of_lt_of_le (hG b h) hb.size⟩) (fun b h => hb.block b (hG b h)) h
theorem RRow.inF {G F : Nat → Prop} {w w' : World} {l : List α} {a : Option Addr} (g : Good sz R) (hG : ∀ b, G b → b < w.heap.size) (hF : ∀ b, G b → F b) (hb : Below w.heap.size w w') (h : RRow sz R G w l a) : RRow sz R (InF F w') w' l a :=
  h.keep g (fun b h => ⟨hF b h, Nat.lt_of_lt_of_le (hG b h) hb.size⟩) (fun b h => hb.block b (hG b h))
/-- blocks of a kind, or new ones -/
def Fr (F : Nat → Prop) (w w' : World) : Nat → Prop := fun b => (F b ∨ w.heap.size ≤ b) ∧ b < w'.heap.size
theorem Good.toNow {F : Nat → Prop} {w : World} (g : Good sz R) (hF : ∀ b, F b → b < w.heap.size) {x : α} {cs : List Value} (h : R F w x cs) : R (Now w) w x cs := g.keep hF (fun _ _ => rfl) h
theorem Good.same {F : Nat → Prop} {w w' : World} (g : Good sz R) (hF : ∀ b, F b → b < w.heap.size) (hb : Below w.heap.size w w') {x : α} {cs : List Value} (h : R F w x cs) : R F w' x cs := g.keep (fun _ h => h) (fun b h => hb.block b (hF b h)) h
theorem good_row_same {F : Nat → Prop} {w w' : World} {l : List α} {a : Option Addr} (g : Good sz R) (hF : ∀ b, F b → b < w.heap.size) (hb : Below w.heap.size w w') (h : RRow sz R F w l a) : RRow sz R F w' l a := h.keep g (fun _ h => h) (fun b h => hb.block b (hF b h))
theorem fr_lt {F : Nat → Prop} {w w' : World} (b : Nat) (h : Fr F w w' b) : b < w'.heap.size := h.2
theorem RRow.later {F : Nat → Prop} {w w' : World} {l : List α} {a : Option Addr} (g : Good sz R) (hb : Below w.heap.size w w') (h : RRow sz R (InF F w) w l a) : RRow sz R (InF F w') w' l a := h.keep g (inF_below hb).1 (inF_below hb).2
/-- the blocks of the kind are as they were; then it is there now -/
theorem RRow.now {F : Nat → Prop} {w w' : World} {l : List α} {a : Option Addr} (g : Good sz R) (hk : ∀ b, F b → w'.heap[b]? = w.heap[b]?) (hs : w.heap.size ≤ w'.heap.size) (h : RRow sz R (InF F w) w l a) : Row sz R w' l a :=
  h.keep g (fun b h => Nat.lt_of_lt_of_le h.2 hs) (fun b h => hk b h.1)

/-- a row as what is appended, whatever its capacity -/
theorem Source.row' {t : TypeId} {F : Nat → Prop} {W : World} {l : List α} {a : Option Addr} (g : Good sz R) {cap : Nat} (h : RRow sz R F W l a) : ∃ news, Source P t t sz W (.slice a l.length cap) l.length news ∧ CellsL R F W l news := Source.row g h
/-- a row of the call's own, beyond B, its elements' memory in blocks F below B -/
def OwnN {α : Type} (R : RepT α) (sz : Nat) (e : TypeId) (B : Nat) (F : Nat → Prop) (l : List α) (v : Value) (W : World) : Prop := B ≤ W.heap.size ∧ (∀ b, F b → b < B) ∧ ∃ xs, W.ownsRow B e sz v l.length xs ∧ CellsL R F W l xs
theorem ownN_stable (g : Good sz R) (e : TypeId) (B : Nat) (F : Nat → Prop) (l : List α) : StableV (OwnN R sz e B F l) := fun h ⟨h0, hF, xs, h1, h2⟩ =>
  ⟨Nat.le_trans h0 h.size, hF, xs, own_later h1 h, h2.keep g (fun _ hb => hb) (fun b hb => h.block b (Nat.lt_of_lt_of_le (hF b hb) h0))⟩
/-- an empty slice of its own -/
def NoneAt (e : TypeId) (B : Nat) (v : Value) (W : World) : Prop := ∃ g, v = .slice (some ⟨g, 0, none⟩) 0 0 ∧ B ≤ g ∧ Box W g #[] e
theorem noneAt_stable (e : TypeId) (B : Nat) : StableV (NoneAt e B) := fun h ⟨g, e, h1, hb⟩ => ⟨g, e, h1, hb.below h⟩
theorem NoneAt.own {e : TypeId} {B size : Nat} {v : Value} {W : World} (h : NoneAt e B v W) : W.ownsRow B e size v 0 [] := by
  obtain ⟨g, rfl, h1, hb⟩ := h
  exact ⟨by simp, .inr ⟨g, 0, #[], rfl, h1, hb, Nat.le_refl _, by unfold maxLen; omega, by simp, by simp⟩⟩
theorem grow_empty {B : Nat} {F : Nat → Prop} {a : Act} {o : Oper} {W : World} (g : Good sz R) (s x : Operand) {t e : TypeId} {z : Value} {bytes : Nat} (ho : o.op = .call { callee := .builtin .append, args := #[s, x], argTypes := #[t, t] }) (E : Elem P t e z sz bytes)
    {m : List α} (v0 : Value) (hs : a.eval s = v0) (h0 : NoneAt e B v0 W) (hB : B ≤ W.heap.size) (hF : ∀ b, F b → b < B)
    (xv : Value) (news : List Value) (hx : a.eval x = xv) (hS : Source P t t sz W xv m.length news) (hcl : CellsL R F W m news) (b1 : m.length ≤ maxLen) (b2 : m.length * bytes ≤ 140737488355328) :
    growUpon P LeB (OwnN R sz e B F m) W ((execOp a.eval o).run P W) := by
  obtain ⟨i, hi, hz, hsz, hby⟩ := info_parts E.info
  have hown := h0.own (size := sz)
  obtain ⟨g0, rfl, hg0, hbox⟩ := h0
  have key : ∃ v' w', (Builtin.append_ #[t, t] o.type #[.slice (some ⟨g0, 0, none⟩) 0 0, xv]).run P W = .ok v' w' ∧ LeB W w' ∧ w'.ownsRow B e sz v' m.length news := by
    have hzero : ∀ xo c, m.length = 0 → news = [] → ∃ v' w', (Builtin.append_ #[t, t] o.type #[.slice (some ⟨g0, 0, none⟩) 0 0, .slice xo 0 c]).run P W = .ok v' w' ∧ LeB W w' ∧ w'.ownsRow B e sz v' m.length news := fun xo c hm hn => by
      refine ⟨_, _, run_append_zero W E.ht hi _ 0 0 xo c (Nat.le_refl _) (fun h => ⟨rfl, rfl⟩), leB_refl _, ?_⟩
      rw [hm, hn]
      exact hown
    rcases hS with ⟨ad, c, rfl, _, hl, hnews, h1⟩ | ⟨⟨c, rfl⟩, hm, hn, _⟩ | ⟨str, rfl, _, rfl, hu, h1⟩
    · by_cases hm : m.length = 0
      · have hn : news = [] := List.eq_nil_of_length_eq_zero (by rw [hl, hm]; simp)
        rw [hm]
        rw [hm] at hzero
        exact hzero _ _ rfl hn
      · obtain ⟨v', w', hrun, r1, r2⟩ := run_append_arg_grows (P := P) W t o.type e i z sz bytes E.ht hi hz hsz hby E.hzs E.pos ⟨g0, 0, none⟩ 0 0 [] (by simp) (fun j u h => by simp at h) ad m.length c news hl hnews (by omega) (by omega) (by rw [Nat.zero_add]; exact b2)
        refine ⟨v', w', hrun, grown_below r2, ?_⟩
        have r3 : w'.ownsRow W.heap.size e sz v' m.length news := by simpa using r1
        refine ⟨r3.1, ?_⟩
        rcases r3.2 with h | ⟨gb, cap, cur, e1, e2, e3⟩
        · exact .inl h
        · exact .inr ⟨gb, cap, cur, e1, Nat.le_trans hB e2, e3⟩
    · exact hzero _ _ hm hn
    · exfalso; rw [E.ht] at hu; cases hu
  obtain ⟨v', w', hr, h2, h3⟩ := key
  unfold execOp
  simp only [ho, resolve, invoke, builtin, Sem.run_bind, Sem.run_pure, Result.andThen_ok, List.map_toArray, List.map_cons, List.map_nil, hs, hx, hr]
  exact ⟨h2, Nat.le_trans hB h2.size, hF, news, h3, hcl.keep g (fun _ hb => hb) (fun b hb => h2.block b (Nat.lt_of_lt_of_le (hF b hb) hB))⟩
/-- behind an append to such a row -/
theorem OwnN.grew {B : Nat} {F : Nat → Prop} {e : TypeId} {l m : List α} {v v' : Value} {W W' : World} {xs news : List Value} (g : Good sz R) (hB : B ≤ W.heap.size) (hF : ∀ b, F b → b < B) (h1 : W.ownsRow B e sz v l.length xs) (h2 : CellsL R F W l xs) (h3 : CellsL R F W m news)
    (hg : Grew B e sz W v v' (l.length + m.length) (xs ++ news) W') : OwnN R sz e B F (l ++ m) v' W' := by
  have hk : ∀ b, F b → W'.heap[b]? = W.heap[b]? := fun b hb => hg.other (Nat.lt_of_lt_of_le (hF b hb) hB) (fun e => by have := (h1.lt b e).1; have := hF b hb; omega)
  exact ⟨Nat.le_trans hB hg.by_.size, hF, xs ++ news, by rw [List.length_append]; exact hg.own, (h2.keep g (fun _ h => h) hk).append (h3.keep g (fun _ h => h) hk)⟩
/-- as a row -/
theorem OwnN.row {B : Nat} {F : Nat → Prop} {e : TypeId} {l : List α} {v : Value} {W : World} (g : Good sz R) (h : OwnN R sz e B F l v W) : ∃ ao cap, v = .slice ao l.length cap ∧ l.length ≤ cap ∧ RRow sz R (fun b => b < W.heap.size ∧ (F b ∨ B ≤ b)) W l ao := by
  obtain ⟨hB, hF, xs, h1, h2⟩ := h
  have hlt := h1.lt
  have hcells := fun g hg => h1.cells (g := g) hg
  rcases h1.2 with ⟨hv, hn⟩ | ⟨gb, cap, cur, hv, _, _, h4, _⟩
  · have : l = [] := List.eq_nil_of_length_eq_zero hn
    subst this
    exact ⟨none, 0, hv, Nat.le_refl _, RRow.nil _⟩
  · have ho : v.ownBlock = some gb := by rw [hv]; rfl
    refine ⟨_, cap, hv, h4, ?_⟩
    have hcl := h2.keep (F' := fun b => b < W.heap.size ∧ (F b ∨ B ≤ b)) (w' := W) g (fun b hb => ⟨Nat.lt_of_lt_of_le (hF b hb) hB, .inl hb⟩) (fun _ _ => rfl)
    refine hcl.row g ⟨(hlt gb ho).2, .inr (hlt gb ho).1⟩ (fun j u hu => ?_)
    have := hcells gb ho j u hu
    rw [Nat.zero_add]
    by_cases hj : j = 0
    · subst hj; simpa [Addr.add] using this
    · simpa [Addr.add, hj] using this
end
end Go.Proofs.Ytfndjciojljkfaa

namespace Go.Proofs.Ytfndjciojljkfaa
set_option linter.unusedSimpArgs false
set_option linter.unusedVariables false
open Go.RowKit
section
variable {P : Program} {ops : Array Oper} {md : Region.Mode} {Le : World → World → Prop} {w0 : World} {Ψ : Nat → Value → World → Prop} {hv : Nat → Option (List Nat)}
def lightB (o : Oper) : Bool := match o.op with | .move _ => true | .extract _ _ => true | _ => false
theorem light_run {o : Oper} (h : lightB o = true) (ev : Operand → Value) : (∃ v, ∀ w, (execOp ev o).run P w = .ok (.value v) w) ∨ (∀ w, ∃ x w', (execOp ev o).run P w = .halt x w') := by
  obtain ⟨dst, op, ty, pos, aft, gd⟩ := o
  cases op <;> simp only [lightB] at h <;> try cases h
  · exact .inl ⟨_, fun w => by simp [execOp]; rfl⟩
  · rename_i tuple index
    simp only [execOp, Instr.extract]
    cases ev tuple with
    | tuple vs =>
      cases hh : vs[index]? with
      | some v => exact .inl ⟨v, fun w => by simp [hh]⟩
      | none => exact .inr fun w => ⟨_, _, by simp [hh, stuck]; exact ⟨rfl, rfl⟩⟩
    | _ => exact .inr fun w => ⟨_, _, by simp [stuck]; exact ⟨rfl, rfl⟩⟩
def wpAnyL (P : Program) (md : Region.Mode) (ops : Array Oper) (Le : World → World → Prop) (w0 : World) (Ψ : Nat → Value → World → Prop) (hv : Nat → Option (List Nat)) (n : Nat → Bool) (L : Array Bool → Act → (Nat → Value) → Prop) : Nat → Array Bool → Act → (Nat → Value) → Prop
  | 0, listed, a, f => L listed a f
  | F + 1, listed, a, f => (∃ i, i ∈ Region.ready md ops listed ∧ n i = true) ∧ ∀ i ∈ Region.ready md ops listed, n i = true → gOp P ops Le w0 Ψ hv i (wpAnyL P md ops Le w0 Ψ hv n L F (listed.setIfInBounds i true)) a f
/-- who waits for no float still waits for all other heads -/
def sinkF (md : Region.Mode) (ops : Array Oper) (n fl : Nat → Bool) : Bool := (List.range ops.size).all fun t => n t || (List.range ops.size).all fun i => !n i || fl i || reachB md ops ops.size t i
def floatB (md : Region.Mode) (ops : Array Oper) (n fl : Nat → Bool) : Bool := (List.range ops.size).all fun i => !fl i || (n i && (match ops[i]? with
  | none => false
  | some oi => lightB oi && (List.range ops.size).all fun j => j == i || reachB md ops ops.size i j || (match ops[j]? with
    | none => true
    | some oj => oj.after.any (fun e => Region.binds md e && e.on == i) || oi.apart ops oj)))
theorem float_spec {n fl : Nat → Bool} (h : floatB md ops n fl = true) {i : Nat} {oi : Oper} (hi : ops[i]? = some oi) (hf : fl i = true) : n i = true ∧ lightB oi = true ∧
    ∀ (j : Nat) (oj : Oper), ops[j]? = some oj → j ≠ i → reachB md ops ops.size i j = false → (∀ e ∈ oj.after, Region.binds md e = true → e.on ≠ i) → oi.apart ops oj = true := by
  have his : i < ops.size := (Array.getElem?_eq_some_iff.1 hi).1
  have h1 := List.all_eq_true.1 h i (List.mem_range.2 his)
  simp only [hf, hi, Bool.not_true, Bool.false_or, Bool.and_eq_true] at h1
  refine ⟨h1.1, h1.2.1, fun j oj hj hne hr hno => ?_⟩
  have h2 := List.all_eq_true.1 h1.2.2 j (List.mem_range.2 (Array.getElem?_eq_some_iff.1 hj).1)
  simp only [hj, hr, Bool.or_false, Bool.or_eq_true, beq_iff_eq, hne, false_or] at h2
  rcases h2 with h2 | h2
  · obtain ⟨e, he, hb⟩ := Array.any_eq_true'.1 h2
    simp only [Bool.and_eq_true, beq_iff_eq] at hb
    exact absurd hb.2 (hno e he hb.1)
  · exact h2
theorem wpAny_of_L (law : Lawful Le Ψ) (hd : depsB md ops hv = true) {n fl : Nat → Bool} {g : Nat} {L : Array Bool → Act → (Nat → Value) → Prop} {Q : Exit → Act → World → Prop} (hsel : ∀ (j : Nat) (o : Oper) cs b, ops[j]? = some o → o.op ≠ .select cs b)
    (hsink : sinkF md ops n fl = true) (hfl : floatB md ops n fl = true) (hQ : ∀ d v c a w, Q (.panic c) (Act.put a d v) w → Q (.panic c) a w)
    (hL : ∀ listed a f W, L listed a f → Le w0 W → Facts Ψ hv listed f W → wpAny P md ops Q g listed a W) :
    ∀ (F : Nat) (listed : Array Bool) (a : Act) (f : Nat → Value) (W : World), GInv md ops listed → wpAnyL P md ops Le w0 Ψ hv n L F listed a f → Le w0 W → Facts Ψ hv listed f W → wpAny P md ops Q (F + g) listed a W
  | 0, listed, a, f, W, _, h, hW, hf => by rw [Nat.zero_add]; exact hL _ _ _ _ h hW hf
  | F + 1, listed, a, f, W, inv, h, hW, hf => by
    rw [show F + 1 + g = (F + g) + 1 by omega]
    have hset : ∀ {i j : Nat}, (listed.setIfInBounds i true).getD j false = true → j ≠ i → listed.getD j false = true := fun {i j} hj hne => by rwa [getD_set_ne false (Ne.symm hne)] at hj
    by_cases hx : ∃ i, i ∈ Region.ready md ops listed ∧ fl i = true
    · obtain ⟨i, hi, hfi⟩ := hx
      obtain ⟨hiun, oi, hoi, hall⟩ := mem_ready.1 hi
      obtain ⟨hni, hlight, hap⟩ := float_spec hfl hoi hfi
      have hg := h.2 i hi hni
      have hfree : ∀ j oj, ops[j]? = some oj → j ≠ i → listed.getD j true = false → (∀ e ∈ oj.after, Region.binds md e = true → e.on ≠ i) → oi.apart ops oj = true := fun j oj hj hne hun hno => by
        refine hap j oj hj hne ?_ hno
        cases hr : reachB md ops ops.size i j with
        | false => rfl
        | true =>
          have := reach_listed inv _ _ _ hr (fun o ho e he hb => by
            have : o = oi := Option.some.inj (ho.symm.trans hoi)
            subst this
            exact hall e he hb)
          rw [getD_both hun] at this
          cases this
      unfold gOp at hg
      simp only [hoi] at hg
      have hlr := light_run (P := P) hlight a.eval
      cases hq : hv i with
      | none =>
        simp only [hq] at hg
        have hF : Facts Ψ hv (listed.setIfInBounds i true) f W := fun k ds hh hl => hf k ds hh (hset hl (fun e => by subst e; rw [hq] at hh; cases hh))
        by_cases hw : Region.wanted oi (yielded ops a.tmps) = true
        · simp only [hw, if_true] at hg
          obtain ⟨v, h1, h2⟩ := hg
          have h3 := h1 ⟨W, hW⟩
          simp only at h3
          rcases hlr with ⟨u, hu⟩ | hh
          · rw [hu W] at h3
            simp only [sameUpon] at h3
            obtain ⟨_, rfl⟩ := h3
            exact wpAny_first hoi hsel (fun c a w => hQ _ _ c a w) (F + g) listed a W hfree hi (.inl ⟨hw, hu⟩) (wpAny_of_L law hd hsel hsink hfl hQ hL F _ _ _ _ (inv.set hi) h2 hW hF)
          · obtain ⟨x, w', e⟩ := hh W
            rw [e] at h3
            simp only [sameUpon] at h3
        · simp only [hw] at hg
          exact wpAny_first hoi hsel (fun c a w => hQ _ _ c a w) (F + g) listed a W hfree hi (.inr ⟨by simpa using hw, rfl⟩) (wpAny_of_L law hd hsel hsink hfl hQ hL F _ _ _ _ (inv.set hi) hg hW hF)
      | some ds =>
        simp only [hq] at hg
        obtain ⟨hw, h1, h2⟩ := hg
        have hpre : factsOf Ψ ds f W := fun k hh => by
          obtain ⟨⟨ds', hds'⟩, _⟩ := depsB_spec hd hoi hq hh
          exact hf k ds' hds' (deps_listed hd hi hq hh)
        have h3 := h1 ⟨W, hW⟩ hpre
        simp only at h3
        rcases hlr with ⟨u, hu⟩ | hh
        · rw [hu W] at h3
          simp only [growUpon] at h3
          have hF : Facts Ψ hv (listed.setIfInBounds i true) (upd f i u) W := fun k ds' hh hl => by
            by_cases e : k = i
            · subst e; rw [upd_same]; exact h3.2
            · rw [upd_other _ _ e]; exact hf k ds' hh (hset hl e)
          exact wpAny_first hoi hsel (fun c a w => hQ _ _ c a w) (F + g) listed a W hfree hi (.inl ⟨hw, hu⟩) (wpAny_of_L law hd hsel hsink hfl hQ hL F _ _ _ _ (inv.set hi) (h2 u) hW hF)
        · obtain ⟨x, w', e⟩ := hh W
          rw [e] at h3
          simp only [growUpon] at h3
    obtain ⟨i0, hi0, hn0⟩ := h.1
    have hallN : ∀ j ∈ Region.ready md ops listed, n j = true := fun j hj => by
      obtain ⟨_, oj, hoj, hall⟩ := mem_ready.1 hj
      have h1 := List.all_eq_true.1 hsink j (List.mem_range.2 (Array.getElem?_eq_some_iff.1 hoj).1)
      simp only [Bool.or_eq_true] at h1
      rcases h1 with h1 | h1
      · exact h1
      · obtain ⟨hun0, o0, ho0, _⟩ := mem_ready.1 hi0
        have h2 := List.all_eq_true.1 h1 i0 (List.mem_range.2 (Array.getElem?_eq_some_iff.1 ho0).1)
        have hf0 : fl i0 = false := by
          cases e : fl i0 with
          | false => rfl
          | true => exact absurd ⟨i0, hi0, e⟩ hx
        simp only [hn0, hf0, Bool.not_true, Bool.false_or] at h2
        have h3 := reach_listed inv _ _ _ h2 (fun o ho e he hb => by
          have : o = oj := Option.some.inj (ho.symm.trans hoj)
          subst this
          exact hall e he hb)
        rw [getD_both hun0] at h3
        cases h3
    refine ⟨fun h0 => (by rw [h0] at hi0; cases hi0), fun i hi => ?_⟩
    have hg := h.2 i hi (hallN i hi)
    unfold gOp at hg
    unfold wpOp
    split
    · rename_i ho
      obtain ⟨_, o, ho', _⟩ := mem_ready.1 hi
      rw [ho] at ho'
      cases ho'
    · rename_i o ho
      simp only [ho] at hg
      cases hq : hv i with
      | none =>
        simp only [hq] at hg
        have hF : ∀ {W'}, Le W W' → Facts Ψ hv (listed.setIfInBounds i true) f W' := fun {W'} hle k ds hh hl => law.stable hle (hf k ds hh (hset hl (fun e => by subst e; rw [hq] at hh; cases hh)))
        split
        · rename_i hw
          simp only [hw, if_true] at hg
          obtain ⟨v, h1, h2⟩ := hg
          have h3 := h1 ⟨W, hW⟩
          refine .inl ?_
          unfold Oper.wp
          simp only at h3
          generalize (execOp a.eval o).run P W = r at *
          cases r with
          | ok nx W' =>
            cases nx <;> simp only [sameUpon] at h3 <;> simp only [Oper.upon]
            case value u => rw [h3.2]; exact wpAny_of_L law hd hsel hsink hfl hQ hL F _ _ _ _ (inv.set hi) h2 (law.trans hW h3.1) (hF h3.1)
            case skip => rw [h3.2] at h2; exact wpAny_of_L law hd hsel hsink hfl hQ hL F _ _ _ _ (inv.set hi) h2 (law.trans hW h3.1) (hF h3.1)
          | halt x W' => simp only [sameUpon] at h3
        · rename_i hw
          simp only [hw] at hg
          exact wpAny_of_L law hd hsel hsink hfl hQ hL F _ _ _ _ (inv.set hi) hg hW (fun k ds hh hl => hf k ds hh (hset hl (fun e => by subst e; rw [hq] at hh; cases hh)))
      | some ds =>
        simp only [hq] at hg
        obtain ⟨hw, h1, h2⟩ := hg
        have hpre : factsOf Ψ ds f W := fun k hh => by
          obtain ⟨⟨ds', hds'⟩, _⟩ := depsB_spec hd ho hq hh
          exact hf k ds' hds' (deps_listed hd hi hq hh)
        have h3 := h1 ⟨W, hW⟩ hpre
        have hF : ∀ {v W'}, Le W W' → Ψ i v W' → Facts Ψ hv (listed.setIfInBounds i true) (upd f i v) W' := fun {v W'} hle hv' k ds' hh hl => by
          by_cases e : k = i
          · subst e; rw [upd_same]; exact hv'
          · rw [upd_other _ _ e]; exact law.stable hle (hf k ds' hh (hset hl e))
        simp only [hw, if_true]
        refine .inl ?_
        unfold Oper.wp
        simp only at h3
        generalize (execOp a.eval o).run P W = r at *
        cases r with
        | ok nx W' =>
          cases nx <;> simp only [growUpon] at h3 <;> simp only [Oper.upon]
          case value u => exact wpAny_of_L law hd hsel hsink hfl hQ hL F _ _ _ _ (inv.set hi) (h2 u) (law.trans hW h3.1) (hF h3.1 h3.2)
          case enter fn args =>
            refine h3.2.mono fun e W'' he => ?_
            obtain ⟨v, rfl, hle, hp⟩ := he
            exact wpAny_of_L law hd hsel hsink hfl hQ hL F _ _ _ _ (inv.set hi) (h2 v) (law.trans hW (law.trans h3.1 hle)) (hF (law.trans h3.1 hle) hp)
        | halt x W' => simp only [growUpon] at h3
theorem wpAnyL_weaken {n : Nat → Bool} {L L' : Array Bool → Act → (Nat → Value) → Prop} (h : ∀ listed a f, L listed a f → L' listed a f) : ∀ (F : Nat) (listed : Array Bool) (a : Act) (f : Nat → Value), wpAnyL P md ops Le w0 Ψ hv n L F listed a f → wpAnyL P md ops Le w0 Ψ hv n L' F listed a f
  | 0, _, _, _, hh => h _ _ _ hh
  | F + 1, _, _, _, hh => ⟨hh.1, fun i hi hn => gOp_mono (fun a' f' h' => wpAnyL_weaken h F _ a' f' h') (hh.2 i hi hn)⟩
theorem wpAnyL_first (hrefl : Le w0 w0) (hd : depsB md ops hv = true) {n : Nat → Bool} {i : Nat} {oi : Oper} {L : Array Bool → Act → (Nat → Value) → Prop} (hi : ops[i]? = some oi) (hsel : ∀ (j : Nat) (o : Oper) cs b, ops[j]? = some o → o.op ≠ .select cs b)
    (hin : n i = true) (hLk : ∀ listed a f, L listed a f → ∀ j ∈ Region.ready md ops listed, n j = false) :
    ∀ (F : Nat) (listed : Array Bool) (a : Act) (f : Nat → Value), GInv md ops listed →
      (∀ j oj, ops[j]? = some oj → j ≠ i → listed.getD j true = false → (∀ e ∈ oj.after, Region.binds md e = true → e.on ≠ i) → oi.apart ops oj = true) →
      i ∈ Region.ready md ops listed → gOp P ops Le w0 Ψ hv i (wpAnyL P md ops Le w0 Ψ hv n L F (listed.setIfInBounds i true)) a f → wpAnyL P md ops Le w0 Ψ hv n L (F + 1) listed a f := by
  intro F
  have gsome : ∀ {K : Act → (Nat → Value) → Prop} {a : Act} {f : Nat → Value}, gOp P ops Le w0 Ψ hv i K a f → ∃ a' f', K a' f' := fun {K a f} h => by
    unfold gOp at h
    simp only [hi] at h
    cases q : hv i with
    | none =>
      simp only [q] at h
      by_cases wi : Region.wanted oi (yielded ops a.tmps) = true
      · simp only [wi, if_true] at h; obtain ⟨v, _, h2⟩ := h; exact ⟨_, _, h2⟩
      · simp only [wi] at h; exact ⟨_, _, h⟩
    | some ds => simp only [q] at h; exact ⟨_, _, h.2.2 undef⟩
  induction F with
  | zero =>
    intro listed a f inv hfree hr H
    refine ⟨⟨i, hr, hin⟩, fun j hj hjn => ?_⟩
    by_cases hji : j = i
    · subst hji; exact H
    · exfalso
      obtain ⟨a', f', hL⟩ := gsome H
      have := hLk _ _ _ hL j (ready_mono hj hji)
      rw [hjn] at this
      cases this
  | succ F ih =>
    intro listed a f inv hfree hr H
    refine ⟨⟨i, hr, hin⟩, fun j hj hjn => ?_⟩
    by_cases hji : j = i
    · subst hji; exact H
    · obtain ⟨hjun, oj, hoj, hall⟩ := mem_ready.1 hj
      have hiun := (mem_ready.1 hr).1
      have hnot : ∀ e ∈ oj.after, Region.binds md e = true → e.on ≠ i := fun e he hb heq => by
        have h1 := hall e he hb
        rw [heq, getD_both hiun] at h1
        cases h1
      have hap := hfree j oj hoj hji hjun hnot
      have H1 : gOp P ops Le w0 Ψ hv i (fun a' f' => gOp P ops Le w0 Ψ hv j (wpAnyL P md ops Le w0 Ψ hv n L F ((listed.setIfInBounds i true).setIfInBounds j true)) a' f') a f :=
        gOp_mono (fun a' f' h => h.2 j (ready_mono hj hji) hjn) H
      have H2 := gOp_swap hrefl hji hi hoj hap (fun cs b => hsel i oi cs b hi) (fun cs b => hsel j oj cs b hoj)
        (fun ds e hm => by have := deps_listed hd hr e hm; rw [getD_both hjun] at this; cases this)
        (fun ds e hm => by have := deps_listed hd hj e hm; rw [getD_both hiun] at this; cases this) H1
      have hfree' : ∀ k ok, ops[k]? = some ok → k ≠ i → (listed.setIfInBounds j true).getD k true = false →
          (∀ e ∈ ok.after, Region.binds md e = true → e.on ≠ i) → oi.apart ops ok = true := fun k ok hk hki hun hno => by
        refine hfree k ok hk hki ?_ hno
        by_cases hjk : j = k
        · subst hjk; exact hjun
        · rw [getD_set_ne true hjk] at hun; exact hun
      refine gOp_mono (fun a' f' h => ih (listed.setIfInBounds j true) a' f' (inv.set hj) hfree' (ready_mono hr (Ne.symm hji)) ?_) H2
      rw [Array.setIfInBounds_comm _ _ hji]
      exact h
theorem wpAnyL_lex (hrefl : Le w0 w0) {l : List Oper} (hd : depsB md l.toArray hv = true) {n : Nat → Bool} {tail : List Nat} {R : Act → (Nat → Value) → Prop} (hsel : Region.noSelect l.toArray = true) (hnt : ∀ t ∈ tail, n t = false) :
    ∀ (hd' : List Nat) (listed : Array Bool) (a : Act) (f : Nat → Value), (∀ i ∈ hd', n i = true) → GInv md l.toArray listed → ordHead md l.toArray tail hd' listed = true → wpG P l.toArray Le w0 Ψ hv R (pickOps l hd') a f →
    wpAnyL P md l.toArray Le w0 Ψ hv n (fun listed' a' f' => seqT md l.toArray tail listed' = true ∧ R a' f' ∧ (∀ i ∈ hd', listed'.getD i false = true) ∧ (∀ i, listed.getD i false = true → listed'.getD i false = true)) hd'.length listed a f
  | [], listed, a, f, _, _, hB, h => ⟨by simpa [ordHead] using hB, h, fun i hi => (by cases hi), fun i h => h⟩
  | k :: hd', listed, a, f, hn, inv, hB, h => by
    simp only [ordHead, Bool.and_eq_true] at hB
    obtain ⟨⟨hr, hf⟩, hB'⟩ := hB
    have hr' : k ∈ Region.ready md l.toArray listed := by simpa using hr
    obtain ⟨_, o, h0, _⟩ := mem_ready.1 hr'
    have h0' : l[k]? = some o := by simpa using h0
    have hp : pickOps l (k :: hd') = (k, o) :: pickOps l hd' := by simp only [pickOps, h0']
    rw [hp] at h
    have hks : k < listed.size := by rw [inv.size]; exact (Array.getElem?_eq_some_iff.1 h0).1
    have hself : (listed.setIfInBounds k true).getD k false = true := by simp [hks]
    have hg : gOp P l.toArray Le w0 Ψ hv k (wpG P l.toArray Le w0 Ψ hv R (pickOps l hd')) a f := by
      unfold gOp
      simp only [h0]
      unfold wpG at h
      exact h
    refine wpAnyL_first hrefl hd h0 (Region.noSelect_spec hsel) (hn k (by simp)) (fun listed' a' f' hL => seqT_ready hnt hL.1) hd'.length listed a f inv (Region.free_spec h0 hf) hr' (gOp_mono (fun a' f' h' => ?_) hg)
    have IH := wpAnyL_lex hrefl hd hsel hnt hd' _ a' f' (fun i hi => hn i (List.mem_cons_of_mem _ hi)) (inv.set hr') hB' h'
    refine wpAnyL_weaken (fun listed' a' f' hh => ⟨hh.1, hh.2.1, fun i hi => ?_, fun i hi => hh.2.2.2 i (getD_set_true hi)⟩) _ _ _ _ IH
    rcases List.mem_cons.1 hi with e | hi
    · subst e; exact hh.2.2.2 i hself
    · exact hh.2.2.1 i hi
def growL (md : Region.Mode) (ops : Array Oper) (hd fls tail : List Nat) : Bool :=
  Region.noSelect ops && decide (hd.length + tail.length = ops.size) && sinkF md ops (fun i => hd.contains i) (fun i => fls.contains i) && floatB md ops (fun i => hd.contains i) (fun i => fls.contains i) && tail.all (fun t => !hd.contains t) && ordHead md ops tail hd (Array.replicate ops.size false)
/-- one walk serves every order: hd: the operations that let memory grow, in one order; fls: those of them (moves, extracts) that may come late; tail: those behind all others -/
theorem wp_region_growL {id : Nat} {Q : Exit → Act → World → Prop} {a : Act} {w : World} {l : List Oper} (hd fls tail : List Nat) (Le : World → World → Prop) (Ψ : Nat → Value → World → Prop) (hv : Nat → Option (List Nat)) (hm : P.follows .mixedOrders = true) (hB : growL .any l.toArray hd fls tail = true)
    (hdep : depsB .any l.toArray hv = true) (law : Lawful Le Ψ) (hrefl : Le w.drew w.drew) (hQ : ∀ d v c a w, Q (.panic c) (Act.put a d v) w → Q (.panic c) a w)
    (h : wpG P l.toArray Le w.drew Ψ hv (fun a' f => ∀ p : LaterG Le w.drew, (∀ h ds, h ∈ hd → hv h = some ds → Ψ h (f h) p.W) → wpList P l.toArray Q ((pickOps l tail).map (·.2)) a' p.W) (pickOps l hd) a (fun _ => undef)) : (Code.region id l.toArray true).wp P Q a w := by
  simp only [growL, Bool.and_eq_true, decide_eq_true_eq] at hB
  obtain ⟨⟨⟨⟨⟨hsel, hlen⟩, hs⟩, hfl⟩, hnt⟩, hord⟩ := hB
  have hnt' : ∀ t ∈ tail, (fun i => hd.contains i) t = false := fun t ht => by
    have := List.all_eq_true.1 hnt t ht
    simpa using this
  have inv0 : GInv .any l.toArray (Array.replicate l.toArray.size false) := ⟨by simp, fun j oj _ hl => (by rw [getD_replicate_false] at hl; cases hl)⟩
  have H := wpAnyL_lex (md := .any) (l := l) (n := fun i => hd.contains i) hrefl hdep hsel hnt' hd _ a _ (fun i hi => by simpa using hi) inv0 hord h
  refine wp_region_any hm ?_
  have := wpAny_of_L (Q := Q) (g := tail.length) law hdep (Region.noSelect_spec hsel) hs hfl hQ (fun listed a' f W hL hW hF => wpAny_of_seqT (md := .any) (Q := Q) tail listed a' W hL.1 (hL.2.1 ⟨W, hW⟩ (fun h ds hn e => hF h ds e (hL.2.2.1 h hn)))) _ _ _ _ w.drew inv0 H hrefl (fun h ds _ hl => by rw [getD_replicate_false] at hl; cases hl)
  rw [hlen] at this
  exact this
end
end Go.Proofs.Ytfndjciojljkfaa

namespace Go.Proofs.Ytfndjciojljkfaa
set_option linter.unusedSimpArgs false
set_option linter.unusedVariables false
open Go.RowKit
def updS (s : Nat → Bool) (k : Nat) : Nat → Bool := fun j => if j = k then true else s j
section
variable {P : Program} {ops : Array Oper} {md : Region.Mode} {Le : World → World → Prop} {w0 : World} {I : (Nat → Bool) → (Nat → Value) → World → Prop} {hv : Nat → Option (List Nat)}
def gheavyI (P : Program) (Le : World → World → Prop) (w0 : World) (I : (Nat → Bool) → (Nat → Value) → World → Prop) (ds : List Nat) (k : Nat) (o : Oper) (a : Act) (f : Nat → Value) : Prop :=
  ∀ (p : LaterG Le w0) (s : Nat → Bool) (f' : Nat → Value), (∀ h ∈ ds, s h = true ∧ f' h = f h) → s k = false → I s f' p.W → growUpon P Le (fun v W' => I (updS s k) (upd f' k v) W') p.W ((execOp a.eval o).run P p.W)
def gOpI (P : Program) (ops : Array Oper) (Le : World → World → Prop) (w0 : World) (I : (Nat → Bool) → (Nat → Value) → World → Prop) (hv : Nat → Option (List Nat)) (i : Nat) (K : Act → (Nat → Value) → Prop) (a : Act) (f : Nat → Value) : Prop :=
  match ops[i]? with
  | none => K a f
  | some o => match hv i with
    | none => if Region.wanted o (yielded ops a.tmps) = true then gquiet P Le w0 o a (fun a' => K a' f) else K (a.put o.dst undef) f
    | some ds => Region.wanted o (yielded ops a.tmps) = true ∧ gheavyI P Le w0 I ds i o a f ∧ ∀ v, K (a.put o.dst v) (upd f i v)
def wpGI (P : Program) (ops : Array Oper) (Le : World → World → Prop) (w0 : World) (I : (Nat → Bool) → (Nat → Value) → World → Prop) (hv : Nat → Option (List Nat)) (R : Act → (Nat → Value) → Prop) : List (Nat × Oper) → Act → (Nat → Value) → Prop
  | [], a, f => R a f
  | (k, o) :: rest, a, f => match hv k with
    | none => if Region.wanted o (yielded ops a.tmps) = true then gquiet P Le w0 o a (fun a' => wpGI P ops Le w0 I hv R rest a' f) else wpGI P ops Le w0 I hv R rest (a.put o.dst undef) f
    | some ds => Region.wanted o (yielded ops a.tmps) = true ∧ gheavyI P Le w0 I ds k o a f ∧ ∀ v, wpGI P ops Le w0 I hv R rest (a.put o.dst v) (upd f k v)
theorem gheavyI_put {ds : List Nat} {k : Nat} {o : Oper} (hs : ∀ cs b, o.op ≠ .select cs b) {a : Act} {dst : Option Tmp} {v : Value} {f : Nat → Value} (h : ∀ d, dst = some d → d ∉ o.looksAt ops) : gheavyI P Le w0 I ds k o (a.put dst v) f ↔ gheavyI P Le w0 I ds k o a f := by
  unfold gheavyI
  rw [execOp_put (ops := ops) o hs a dst v h]
theorem gheavyI_congr {ds : List Nat} {k : Nat} {o : Oper} {a : Act} {f f2 : Nat → Value} (h : ∀ k ∈ ds, f2 k = f k) (hh : gheavyI P Le w0 I ds k o a f) : gheavyI P Le w0 I ds k o a f2 := fun p s f' hd hk hI =>
  hh p s f' (fun k hk => ⟨(hd k hk).1, (hd k hk).2.trans (h k hk)⟩) hk hI
structure LawfulI (Le : World → World → Prop) (I : (Nat → Bool) → (Nat → Value) → World → Prop) : Prop where
  trans : ∀ {a b c}, Le a b → Le b c → Le a c
  stable : ∀ {s f W W'}, Le W W' → I s f W → I s f W'
def lst (hv : Nat → Option (List Nat)) (listed : Array Bool) : Nat → Bool := fun k => listed.getD k false && (hv k).isSome
theorem lst_quiet {listed : Array Bool} {i : Nat} (h : hv i = none) : lst hv (listed.setIfInBounds i true) = lst hv listed := by
  funext k
  unfold lst
  by_cases e : k = i
  · subst e; rw [h]; simp
  · rw [getD_set_ne false (Ne.symm e)]
theorem lst_heavy {listed : Array Bool} {i : Nat} {ds : List Nat} (h : hv i = some ds) (hs : i < listed.size) : lst hv (listed.setIfInBounds i true) = updS (lst hv listed) i := by
  funext k
  unfold lst updS
  by_cases e : k = i
  · subst e; rw [h]; simp [hs]
  · rw [getD_set_ne false (Ne.symm e), if_neg e]
theorem gOpI_mono {i : Nat} {K K' : Act → (Nat → Value) → Prop} {a : Act} {f : Nat → Value} (h : ∀ a f, K a f → K' a f) (hh : gOpI P ops Le w0 I hv i K a f) : gOpI P ops Le w0 I hv i K' a f := by
  unfold gOpI at *
  split
  · rename_i ho; simp only [ho] at hh; exact h _ _ hh
  · rename_i o ho
    simp only [ho] at hh
    split
    · rename_i hq
      simp only [hq] at hh
      split
      · rename_i hw; simp only [hw, if_true] at hh; obtain ⟨v, h1, h2⟩ := hh; exact ⟨v, h1, h _ _ h2⟩
      · rename_i hw; simp only [hw] at hh; exact h _ _ hh
    · rename_i ds hq
      simp only [hq] at hh
      exact ⟨hh.1, hh.2.1, fun v => h _ _ (hh.2.2 v)⟩

theorem gOpI_swap (hrefl : Le w0 w0) {i j : Nat} {oi oj : Oper} (hij : j ≠ i) (hi : ops[i]? = some oi) (hj : ops[j]? = some oj) (hap : oi.apart ops oj = true) (hsi : ∀ cs b, oi.op ≠ .select cs b) (hsj : ∀ cs b, oj.op ≠ .select cs b)
    (hdi : ∀ ds, hv i = some ds → j ∉ ds) (hdj : ∀ ds, hv j = some ds → i ∉ ds) {K : Act → (Nat → Value) → Prop} {a : Act} {f : Nat → Value}
    (h : gOpI P ops Le w0 I hv i (fun a' f' => gOpI P ops Le w0 I hv j K a' f') a f) : gOpI P ops Le w0 I hv j (fun a' f' => gOpI P ops Le w0 I hv i K a' f') a f := by
  obtain ⟨h1, h2, h3⟩ := Oper.apart_spec hap
  have hwi : ∀ (a : Act) u, Region.wanted oi (yielded ops (a.put oj.dst u).tmps) = Region.wanted oi (yielded ops a.tmps) := fun a u => wanted_put oi a oj.dst u h3
  have hwj : ∀ (a : Act) u, Region.wanted oj (yielded ops (a.put oi.dst u).tmps) = Region.wanted oj (yielded ops a.tmps) := fun a u => wanted_put oj a oi.dst u h1
  have hcom : ∀ (a : Act) v u, (a.put oi.dst v).put oj.dst u = (a.put oj.dst u).put oi.dst v := fun a v u => Act.put_comm a v u h2
  unfold gOpI at h ⊢
  simp only [hi, hj] at h ⊢
  cases qi : hv i with
  | none =>
    simp only [qi] at h ⊢
    by_cases wi : Region.wanted oi (yielded ops a.tmps) = true
    · simp only [wi, if_true] at h
      obtain ⟨v, hy, hK⟩ := h
      cases qj : hv j with
      | none =>
        simp only [qj] at hK ⊢
        rw [hwj] at hK
        by_cases wj : Region.wanted oj (yielded ops a.tmps) = true
        · simp only [wj, if_true] at hK ⊢
          obtain ⟨u, hu, hn⟩ := hK
          refine ⟨u, (gquietAt_put hsj h1).1 hu, ?_⟩
          dsimp only
          rw [hwi]
          simp only [wi, if_true]
          exact ⟨v, (gquietAt_put hsi h3).2 hy, by rw [← hcom]; exact hn⟩
        · simp only [wj] at hK ⊢
          rw [hwi]
          simp only [wi, if_true]
          exact ⟨v, (gquietAt_put hsi h3).2 hy, by rw [← hcom]; exact hK⟩
      | some ds =>
        simp only [qj] at hK ⊢
        rw [hwj] at hK
        refine ⟨hK.1, (gheavyI_put hsj h1).1 hK.2.1, fun u => ?_⟩
        rw [hwi]
        simp only [wi, if_true]
        exact ⟨v, (gquietAt_put hsi h3).2 hy, by rw [← hcom]; exact hK.2.2 u⟩
    · simp only [wi] at h
      cases qj : hv j with
      | none =>
        simp only [qj] at h ⊢
        rw [hwj] at h
        by_cases wj : Region.wanted oj (yielded ops a.tmps) = true
        · simp only [wj, if_true] at h ⊢
          obtain ⟨u, hu, hn⟩ := h
          refine ⟨u, (gquietAt_put hsj h1).1 hu, ?_⟩
          dsimp only
          rw [hwi]
          simp only [wi]
          rw [← hcom]; exact hn
        · simp only [wj] at h ⊢
          rw [hwi]
          simp only [wi]
          rw [← hcom]; exact h
      | some ds =>
        simp only [qj] at h ⊢
        rw [hwj] at h
        refine ⟨h.1, (gheavyI_put hsj h1).1 h.2.1, fun u => ?_⟩
        rw [hwi]
        simp only [wi]
        rw [← hcom]; exact h.2.2 u
  | some di =>
    simp only [qi] at h ⊢
    obtain ⟨wi, hy, hK⟩ := h
    cases qj : hv j with
    | none =>
      simp only [qj] at hK ⊢
      by_cases wj : Region.wanted oj (yielded ops a.tmps) = true
      · simp only [wj, if_true]
        have hK' : ∀ v, ∃ u, gquietAt P Le w0 oj a u ∧ K ((a.put oi.dst v).put oj.dst u) (upd f i v) := fun v => by
          have := hK v
          rw [hwj] at this
          simp only [wj, if_true] at this
          obtain ⟨u, hu, hn⟩ := this
          exact ⟨u, (gquietAt_put hsj h1).1 hu, hn⟩
        obtain ⟨u, hu, _⟩ := hK' undef
        refine ⟨u, hu, by rw [hwi]; exact wi, (gheavyI_put hsi h3).2 hy, fun v => ?_⟩
        obtain ⟨u', hu', hn⟩ := hK' v
        rw [gquietAt_one hrefl hu hu', ← hcom]
        exact hn
      · simp only [wj]
        refine ⟨by rw [hwi]; exact wi, (gheavyI_put hsi h3).2 hy, fun v => ?_⟩
        have := hK v
        rw [hwj] at this
        simp only [wj] at this
        rw [← hcom]; exact this
    | some dj =>
      simp only [qj] at hK ⊢
      have k0 := hK undef
      rw [hwj] at k0
      refine ⟨k0.1, gheavyI_congr (fun h hh => (upd_other _ _ (fun e => hdj dj qj (by rw [← e]; exact hh))).symm) ((gheavyI_put hsj h1).1 k0.2.1), fun u => ⟨by rw [hwi]; exact wi, ?_, fun v => ?_⟩⟩
      · exact gheavyI_congr (fun h hh => upd_other _ _ (fun e => hdi di qi (by rw [← e]; exact hh))) ((gheavyI_put hsi h3).2 hy)
      · have := (hK v).2.2 u
        rw [upd_comm f v u (Ne.symm hij), hcom] at this
        exact this

def wpAnyM (P : Program) (md : Region.Mode) (ops : Array Oper) (Le : World → World → Prop) (w0 : World) (I : (Nat → Bool) → (Nat → Value) → World → Prop) (hv : Nat → Option (List Nat)) (n : Nat → Bool) (L : Array Bool → Act → (Nat → Value) → Prop) : Nat → Array Bool → Act → (Nat → Value) → Prop
  | 0, listed, a, f => L listed a f
  | F + 1, listed, a, f => (∃ i, i ∈ Region.ready md ops listed ∧ n i = true) ∧ ∀ i ∈ Region.ready md ops listed, n i = true → gOpI P ops Le w0 I hv i (wpAnyM P md ops Le w0 I hv n L F (listed.setIfInBounds i true)) a f
theorem wpAny_of_M (law : LawfulI Le I) (hd : depsB md ops hv = true) {n fl : Nat → Bool} {g : Nat} {L : Array Bool → Act → (Nat → Value) → Prop} {Q : Exit → Act → World → Prop} (hsel : ∀ (j : Nat) (o : Oper) cs b, ops[j]? = some o → o.op ≠ .select cs b)
    (hsink : sinkF md ops n fl = true) (hfl : floatB md ops n fl = true) (hQ : ∀ d v c a w, Q (.panic c) (Act.put a d v) w → Q (.panic c) a w)
    (hL : ∀ listed a f W, L listed a f → Le w0 W → I (lst hv listed) f W → wpAny P md ops Q g listed a W) :
    ∀ (F : Nat) (listed : Array Bool) (a : Act) (f : Nat → Value) (W : World), GInv md ops listed → wpAnyM P md ops Le w0 I hv n L F listed a f → Le w0 W → I (lst hv listed) f W → wpAny P md ops Q (F + g) listed a W
  | 0, listed, a, f, W, _, h, hW, hf => by rw [Nat.zero_add]; exact hL _ _ _ _ h hW hf
  | F + 1, listed, a, f, W, inv, h, hW, hf => by
    rw [show F + 1 + g = (F + g) + 1 by omega]
    have hset : ∀ {i j : Nat}, (listed.setIfInBounds i true).getD j false = true → j ≠ i → listed.getD j false = true := fun {i j} hj hne => by rwa [getD_set_ne false (Ne.symm hne)] at hj
    by_cases hx : ∃ i, i ∈ Region.ready md ops listed ∧ fl i = true
    · obtain ⟨i, hi, hfi⟩ := hx
      obtain ⟨hiun, oi, hoi, hall⟩ := mem_ready.1 hi
      obtain ⟨hni, hlight, hap⟩ := float_spec hfl hoi hfi
      have hg := h.2 i hi hni
      have hfree : ∀ j oj, ops[j]? = some oj → j ≠ i → listed.getD j true = false → (∀ e ∈ oj.after, Region.binds md e = true → e.on ≠ i) → oi.apart ops oj = true := fun j oj hj hne hun hno => by
        refine hap j oj hj hne ?_ hno
        cases hr : reachB md ops ops.size i j with
        | false => rfl
        | true =>
          have := reach_listed inv _ _ _ hr (fun o ho e he hb => by
            have : o = oi := Option.some.inj (ho.symm.trans hoi)
            subst this
            exact hall e he hb)
          rw [getD_both hun] at this
          cases this
      unfold gOpI at hg
      simp only [hoi] at hg
      have hlr := light_run (P := P) hlight a.eval
      cases hq : hv i with
      | none =>
        simp only [hq] at hg
        have hF : I (lst hv (listed.setIfInBounds i true)) f W := by rw [lst_quiet hq]; exact hf
        by_cases hw : Region.wanted oi (yielded ops a.tmps) = true
        · simp only [hw, if_true] at hg
          obtain ⟨v, h1, h2⟩ := hg
          have h3 := h1 ⟨W, hW⟩
          simp only at h3
          rcases hlr with ⟨u, hu⟩ | hh
          · rw [hu W] at h3
            simp only [sameUpon] at h3
            obtain ⟨_, rfl⟩ := h3
            exact wpAny_first hoi hsel (fun c a w => hQ _ _ c a w) (F + g) listed a W hfree hi (.inl ⟨hw, hu⟩) (wpAny_of_M law hd hsel hsink hfl hQ hL F _ _ _ _ (inv.set hi) h2 hW hF)
          · obtain ⟨x, w', e⟩ := hh W
            rw [e] at h3
            simp only [sameUpon] at h3
        · simp only [hw] at hg
          exact wpAny_first hoi hsel (fun c a w => hQ _ _ c a w) (F + g) listed a W hfree hi (.inr ⟨by simpa using hw, rfl⟩) (wpAny_of_M law hd hsel hsink hfl hQ hL F _ _ _ _ (inv.set hi) hg hW hF)
      | some ds =>
        simp only [hq] at hg
        obtain ⟨hw, h1, h2⟩ := hg
        have h3 := h1 ⟨W, hW⟩ (lst hv listed) f (fun k hh => ⟨by
          obtain ⟨⟨ds', hds'⟩, _⟩ := depsB_spec hd hoi hq hh
          simp [lst, hds', deps_listed hd hi hq hh], rfl⟩) (by unfold lst; rw [getD_both (mem_ready.1 hi).1]; rfl) hf
        simp only at h3
        rcases hlr with ⟨u, hu⟩ | hh
        · rw [hu W] at h3
          simp only [growUpon] at h3
          have hF : I (lst hv (listed.setIfInBounds i true)) (upd f i u) W := by rw [lst_heavy hq (by rw [inv.size]; exact (Array.getElem?_eq_some_iff.1 hoi).1)]; exact h3.2
          exact wpAny_first hoi hsel (fun c a w => hQ _ _ c a w) (F + g) listed a W hfree hi (.inl ⟨hw, hu⟩) (wpAny_of_M law hd hsel hsink hfl hQ hL F _ _ _ _ (inv.set hi) (h2 u) hW hF)
        · obtain ⟨x, w', e⟩ := hh W
          rw [e] at h3
          simp only [growUpon] at h3
    obtain ⟨i0, hi0, hn0⟩ := h.1
    have hallN : ∀ j ∈ Region.ready md ops listed, n j = true := fun j hj => by
      obtain ⟨_, oj, hoj, hall⟩ := mem_ready.1 hj
      have h1 := List.all_eq_true.1 hsink j (List.mem_range.2 (Array.getElem?_eq_some_iff.1 hoj).1)
      simp only [Bool.or_eq_true] at h1
      rcases h1 with h1 | h1
      · exact h1
      · obtain ⟨hun0, o0, ho0, _⟩ := mem_ready.1 hi0
        have h2 := List.all_eq_true.1 h1 i0 (List.mem_range.2 (Array.getElem?_eq_some_iff.1 ho0).1)
        have hf0 : fl i0 = false := by
          cases e : fl i0 with
          | false => rfl
          | true => exact absurd ⟨i0, hi0, e⟩ hx
        simp only [hn0, hf0, Bool.not_true, Bool.false_or] at h2
        have h3 := reach_listed inv _ _ _ h2 (fun o ho e he hb => by
          have : o = oj := Option.some.inj (ho.symm.trans hoj)
          subst this
          exact hall e he hb)
        rw [getD_both hun0] at h3
        cases h3
    refine ⟨fun h0 => (by rw [h0] at hi0; cases hi0), fun i hi => ?_⟩
    have hg := h.2 i hi (hallN i hi)
    unfold gOpI at hg
    unfold wpOp
    split
    · rename_i ho
      obtain ⟨_, o, ho', _⟩ := mem_ready.1 hi
      rw [ho] at ho'
      cases ho'
    · rename_i o ho
      simp only [ho] at hg
      cases hq : hv i with
      | none =>
        simp only [hq] at hg
        have hF : ∀ {W'}, Le W W' → I (lst hv (listed.setIfInBounds i true)) f W' := fun {W'} hle => by rw [lst_quiet hq]; exact law.stable hle hf
        split
        · rename_i hw
          simp only [hw, if_true] at hg
          obtain ⟨v, h1, h2⟩ := hg
          have h3 := h1 ⟨W, hW⟩
          refine .inl ?_
          unfold Oper.wp
          simp only at h3
          generalize (execOp a.eval o).run P W = r at *
          cases r with
          | ok nx W' =>
            cases nx <;> simp only [sameUpon] at h3 <;> simp only [Oper.upon]
            case value u => rw [h3.2]; exact wpAny_of_M law hd hsel hsink hfl hQ hL F _ _ _ _ (inv.set hi) h2 (law.trans hW h3.1) (hF h3.1)
            case skip => rw [h3.2] at h2; exact wpAny_of_M law hd hsel hsink hfl hQ hL F _ _ _ _ (inv.set hi) h2 (law.trans hW h3.1) (hF h3.1)
          | halt x W' => simp only [sameUpon] at h3
        · rename_i hw
          simp only [hw] at hg
          exact wpAny_of_M law hd hsel hsink hfl hQ hL F _ _ _ _ (inv.set hi) hg hW (by rw [lst_quiet hq]; exact hf)
      | some ds =>
        simp only [hq] at hg
        obtain ⟨hw, h1, h2⟩ := hg
        have h3 := h1 ⟨W, hW⟩ (lst hv listed) f (fun k hh => ⟨by
          obtain ⟨⟨ds', hds'⟩, _⟩ := depsB_spec hd ho hq hh
          simp [lst, hds', deps_listed hd hi hq hh], rfl⟩) (by unfold lst; rw [getD_both (mem_ready.1 hi).1]; rfl) hf
        have hF : ∀ {v W'}, I (updS (lst hv listed) i) (upd f i v) W' → I (lst hv (listed.setIfInBounds i true)) (upd f i v) W' := fun {v W'} h => by rw [lst_heavy hq (by rw [inv.size]; exact (Array.getElem?_eq_some_iff.1 ho).1)]; exact h
        simp only [hw, if_true]
        refine .inl ?_
        unfold Oper.wp
        simp only at h3
        generalize (execOp a.eval o).run P W = r at *
        cases r with
        | ok nx W' =>
          cases nx <;> simp only [growUpon] at h3 <;> simp only [Oper.upon]
          case value u => exact wpAny_of_M law hd hsel hsink hfl hQ hL F _ _ _ _ (inv.set hi) (h2 u) (law.trans hW h3.1) (hF h3.2)
          case enter fn args =>
            refine h3.2.mono fun e W'' he => ?_
            obtain ⟨v, rfl, hle, hp⟩ := he
            exact wpAny_of_M law hd hsel hsink hfl hQ hL F _ _ _ _ (inv.set hi) (h2 v) (law.trans hW (law.trans h3.1 hle)) (hF hp)
        | halt x W' => simp only [growUpon] at h3
theorem wpAnyM_weaken {n : Nat → Bool} {L L' : Array Bool → Act → (Nat → Value) → Prop} (h : ∀ listed a f, L listed a f → L' listed a f) : ∀ (F : Nat) (listed : Array Bool) (a : Act) (f : Nat → Value), wpAnyM P md ops Le w0 I hv n L F listed a f → wpAnyM P md ops Le w0 I hv n L' F listed a f
  | 0, _, _, _, hh => h _ _ _ hh
  | F + 1, _, _, _, hh => ⟨hh.1, fun i hi hn => gOpI_mono (fun a' f' h' => wpAnyM_weaken h F _ a' f' h') (hh.2 i hi hn)⟩
theorem wpAnyM_first (hrefl : Le w0 w0) (hd : depsB md ops hv = true) {n : Nat → Bool} {i : Nat} {oi : Oper} {L : Array Bool → Act → (Nat → Value) → Prop} (hi : ops[i]? = some oi) (hsel : ∀ (j : Nat) (o : Oper) cs b, ops[j]? = some o → o.op ≠ .select cs b)
    (hin : n i = true) (hLk : ∀ listed a f, L listed a f → ∀ j ∈ Region.ready md ops listed, n j = false) :
    ∀ (F : Nat) (listed : Array Bool) (a : Act) (f : Nat → Value), GInv md ops listed →
      (∀ j oj, ops[j]? = some oj → j ≠ i → listed.getD j true = false → (∀ e ∈ oj.after, Region.binds md e = true → e.on ≠ i) → oi.apart ops oj = true) →
      i ∈ Region.ready md ops listed → gOpI P ops Le w0 I hv i (wpAnyM P md ops Le w0 I hv n L F (listed.setIfInBounds i true)) a f → wpAnyM P md ops Le w0 I hv n L (F + 1) listed a f := by
  intro F
  have gsome : ∀ {K : Act → (Nat → Value) → Prop} {a : Act} {f : Nat → Value}, gOpI P ops Le w0 I hv i K a f → ∃ a' f', K a' f' := fun {K a f} h => by
    unfold gOpI at h
    simp only [hi] at h
    cases q : hv i with
    | none =>
      simp only [q] at h
      by_cases wi : Region.wanted oi (yielded ops a.tmps) = true
      · simp only [wi, if_true] at h; obtain ⟨v, _, h2⟩ := h; exact ⟨_, _, h2⟩
      · simp only [wi] at h; exact ⟨_, _, h⟩
    | some ds => simp only [q] at h; exact ⟨_, _, h.2.2 undef⟩
  induction F with
  | zero =>
    intro listed a f inv hfree hr H
    refine ⟨⟨i, hr, hin⟩, fun j hj hjn => ?_⟩
    by_cases hji : j = i
    · subst hji; exact H
    · exfalso
      obtain ⟨a', f', hL⟩ := gsome H
      have := hLk _ _ _ hL j (ready_mono hj hji)
      rw [hjn] at this
      cases this
  | succ F ih =>
    intro listed a f inv hfree hr H
    refine ⟨⟨i, hr, hin⟩, fun j hj hjn => ?_⟩
    by_cases hji : j = i
    · subst hji; exact H
    · obtain ⟨hjun, oj, hoj, hall⟩ := mem_ready.1 hj
      have hiun := (mem_ready.1 hr).1
      have hnot : ∀ e ∈ oj.after, Region.binds md e = true → e.on ≠ i := fun e he hb heq => by
        have h1 := hall e he hb
        rw [heq, getD_both hiun] at h1
        cases h1
      have hap := hfree j oj hoj hji hjun hnot
      have H1 : gOpI P ops Le w0 I hv i (fun a' f' => gOpI P ops Le w0 I hv j (wpAnyM P md ops Le w0 I hv n L F ((listed.setIfInBounds i true).setIfInBounds j true)) a' f') a f :=
        gOpI_mono (fun a' f' h => h.2 j (ready_mono hj hji) hjn) H
      have H2 := gOpI_swap hrefl hji hi hoj hap (fun cs b => hsel i oi cs b hi) (fun cs b => hsel j oj cs b hoj)
        (fun ds e hm => by have := deps_listed hd hr e hm; rw [getD_both hjun] at this; cases this)
        (fun ds e hm => by have := deps_listed hd hj e hm; rw [getD_both hiun] at this; cases this) H1
      have hfree' : ∀ k ok, ops[k]? = some ok → k ≠ i → (listed.setIfInBounds j true).getD k true = false →
          (∀ e ∈ ok.after, Region.binds md e = true → e.on ≠ i) → oi.apart ops ok = true := fun k ok hk hki hun hno => by
        refine hfree k ok hk hki ?_ hno
        by_cases hjk : j = k
        · subst hjk; exact hjun
        · rw [getD_set_ne true hjk] at hun; exact hun
      refine gOpI_mono (fun a' f' h => ih (listed.setIfInBounds j true) a' f' (inv.set hj) hfree' (ready_mono hr (Ne.symm hji)) ?_) H2
      rw [Array.setIfInBounds_comm _ _ hji]
      exact h
theorem wpAnyM_lex (hrefl : Le w0 w0) {l : List Oper} (hd : depsB md l.toArray hv = true) {n : Nat → Bool} {tail : List Nat} {R : Act → (Nat → Value) → Prop} (hsel : Region.noSelect l.toArray = true) (hnt : ∀ t ∈ tail, n t = false) :
    ∀ (hd' : List Nat) (listed : Array Bool) (a : Act) (f : Nat → Value), (∀ i ∈ hd', n i = true) → GInv md l.toArray listed → ordHead md l.toArray tail hd' listed = true → wpGI P l.toArray Le w0 I hv R (pickOps l hd') a f →
    wpAnyM P md l.toArray Le w0 I hv n (fun listed' a' f' => seqT md l.toArray tail listed' = true ∧ R a' f' ∧ (∀ i ∈ hd', listed'.getD i false = true) ∧ (∀ i, listed.getD i false = true → listed'.getD i false = true)) hd'.length listed a f
  | [], listed, a, f, _, _, hB, h => ⟨by simpa [ordHead] using hB, h, fun i hi => (by cases hi), fun i h => h⟩
  | k :: hd', listed, a, f, hn, inv, hB, h => by
    simp only [ordHead, Bool.and_eq_true] at hB
    obtain ⟨⟨hr, hf⟩, hB'⟩ := hB
    have hr' : k ∈ Region.ready md l.toArray listed := by simpa using hr
    obtain ⟨_, o, h0, _⟩ := mem_ready.1 hr'
    have h0' : l[k]? = some o := by simpa using h0
    have hp : pickOps l (k :: hd') = (k, o) :: pickOps l hd' := by simp only [pickOps, h0']
    rw [hp] at h
    have hks : k < listed.size := by rw [inv.size]; exact (Array.getElem?_eq_some_iff.1 h0).1
    have hself : (listed.setIfInBounds k true).getD k false = true := by simp [hks]
    have hg : gOpI P l.toArray Le w0 I hv k (wpGI P l.toArray Le w0 I hv R (pickOps l hd')) a f := by
      unfold gOpI
      simp only [h0]
      unfold wpGI at h
      exact h
    refine wpAnyM_first hrefl hd h0 (Region.noSelect_spec hsel) (hn k (by simp)) (fun listed' a' f' hL => seqT_ready hnt hL.1) hd'.length listed a f inv (Region.free_spec h0 hf) hr' (gOpI_mono (fun a' f' h' => ?_) hg)
    have IH := wpAnyM_lex hrefl hd hsel hnt hd' _ a' f' (fun i hi => hn i (List.mem_cons_of_mem _ hi)) (inv.set hr') hB' h'
    refine wpAnyM_weaken (fun listed' a' f' hh => ⟨hh.1, hh.2.1, fun i hi => ?_, fun i hi => hh.2.2.2 i (getD_set_true hi)⟩) _ _ _ _ IH
    rcases List.mem_cons.1 hi with e | hi
    · subst e; exact hh.2.2.2 i hself
    · exact hh.2.2.1 i hi
/-- one walk serves every order: hd: the operations that let memory grow, in one order; fls: those of them (moves, extracts) that may come late; tail: those behind all others -/
theorem wp_region_growI {id : Nat} {Q : Exit → Act → World → Prop} {a : Act} {w : World} {l : List Oper} (hd fls tail : List Nat) (Le : World → World → Prop) (I : (Nat → Bool) → (Nat → Value) → World → Prop) (hv : Nat → Option (List Nat)) (hm : P.follows .mixedOrders = true) (hB : growL .any l.toArray hd fls tail = true)
    (hdep : depsB .any l.toArray hv = true) (law : LawfulI Le I) (hrefl : Le w.drew w.drew) (hI : I (fun _ => false) (fun _ => undef) w.drew) (hQ : ∀ d v c a w, Q (.panic c) (Act.put a d v) w → Q (.panic c) a w)
    (h : wpGI P l.toArray Le w.drew I hv (fun a' f => ∀ (p : LaterG Le w.drew) (s : Nat → Bool), (∀ k ∈ hd, (hv k).isSome = true → s k = true) → I s f p.W → wpList P l.toArray Q ((pickOps l tail).map (·.2)) a' p.W) (pickOps l hd) a (fun _ => undef)) : (Code.region id l.toArray true).wp P Q a w := by
  simp only [growL, Bool.and_eq_true, decide_eq_true_eq] at hB
  obtain ⟨⟨⟨⟨⟨hsel, hlen⟩, hs⟩, hfl⟩, hnt⟩, hord⟩ := hB
  have hnt' : ∀ t ∈ tail, (fun i => hd.contains i) t = false := fun t ht => by
    have := List.all_eq_true.1 hnt t ht
    simpa using this
  have inv0 : GInv .any l.toArray (Array.replicate l.toArray.size false) := ⟨by simp, fun j oj _ hl => (by rw [getD_replicate_false] at hl; cases hl)⟩
  have H := wpAnyM_lex (md := .any) (l := l) (n := fun i => hd.contains i) hrefl hdep hsel hnt' hd _ a _ (fun i hi => by simpa using hi) inv0 hord h
  refine wp_region_any hm ?_
  have := wpAny_of_M (Q := Q) (g := tail.length) law hdep (Region.noSelect_spec hsel) hs hfl hQ (fun listed a' f W hL hW hF => wpAny_of_seqT (md := .any) (Q := Q) tail listed a' W hL.1 (hL.2.1 ⟨W, hW⟩ (lst hv listed) (fun k hk e => by unfold lst; rw [hL.2.2.1 k hk, e]; rfl) hF)) _ _ _ _ w.drew inv0 H hrefl (by rw [show lst hv (Array.replicate l.toArray.size false) = fun _ => false from funext fun k => by unfold lst; rw [getD_replicate_false]; rfl]; exact hI)
  rw [hlen] at this
  exact this
section
variable {R : Act → (Nat → Value) → Prop} {o : Oper} {rest : List (Nat × Oper)} {k : Nat} {a : Act} {f : Nat → Value}
theorem wpGI_nil (h : R a f) : wpGI P ops Le w0 I hv R [] a f := h
theorem wpGI_step (hk : hv k = none) (h : ∀ K : Act → Prop, (∀ a', wpGI P ops Le w0 I hv R rest a' f → K a') → if Region.wanted o (yielded ops a.tmps) = true then gquiet P Le w0 o a K else K (a.put o.dst undef)) : wpGI P ops Le w0 I hv R ((k, o) :: rest) a f := by
  unfold wpGI
  simp only [hk]
  exact h _ (fun _ h => h)
theorem wpGI_heavy {ds : List Nat} (hk : hv k = some ds) (hw : Region.wanted o (yielded ops a.tmps) = true) (h : gheavyI P Le w0 I ds k o a f)
    (hn : ∀ v, wpGI P ops Le w0 I hv R rest (a.put o.dst v) (upd f k v)) : wpGI P ops Le w0 I hv R ((k, o) :: rest) a f := by
  unfold wpGI
  simp only [hk]
  exact ⟨hw, h, hn⟩
end
end
end Go.Proofs.Ytfndjciojljkfaa

namespace Go.Proofs.Ytfndjciojljkfaa
set_option linter.unusedSimpArgs false
set_option linter.unusedVariables false
open Go.RowKit
/-- a property of a value over the blocks D -/
abbrev PropD := (Nat → Prop) → Value → World → Prop
def StableD (Φ : PropD) : Prop := ∀ {D : Nat → Prop} {v : Value} {W W' : World}, (∀ b, D b → b < W.heap.size) → LeB W W' → Φ D v W → Φ D v W'
structure CallI (N0 : Nat) (F : Nat → Prop) (kc : Nat) (dep : List (Nat × PropD)) (al : List (Nat × Array Value × TypeId)) (s : Nat → Bool) (f : Nat → Value) (W : World) : Prop where
  size : N0 ≤ W.heap.size
  data : ∃ D : Nat → Prop, (∀ b, D b → (F b ∨ N0 ≤ b) ∧ b < W.heap.size) ∧ (∀ e ∈ dep, s e.1 = true → s kc = true ∧ e.2 D (f e.1) W) ∧ ∀ e ∈ al, s e.1 = true → ∃ g, f e.1 = .pointer (some ⟨g, 0, none⟩) ∧ N0 ≤ g ∧ ¬ D g ∧ Box W g e.2.1 e.2.2
  far : ∀ e ∈ al, ∀ e' ∈ al, e.1 ≠ e'.1 → s e.1 = true → s e'.1 = true → f e.1 ≠ f e'.1
section
variable {P : Program} {N0 kc : Nat} {F : Nat → Prop} {dep : List (Nat × PropD)} {al : List (Nat × Array Value × TypeId)}
theorem callI_lawful (hd : ∀ e ∈ dep, StableD e.2) : LawfulI LeB (CallI N0 F kc dep al) := ⟨LeB.trans, fun {s f W W'} h hI => by
  obtain ⟨h1, ⟨D, h2, h3, h4⟩, h5⟩ := hI
  refine ⟨Nat.le_trans h1 h.size, ⟨D, fun b hb => ⟨(h2 b hb).1, Nat.lt_of_lt_of_le (h2 b hb).2 h.size⟩, fun e he hs => ⟨(h3 e he hs).1, hd e he (fun b hb => (h2 b hb).2) h (h3 e he hs).2⟩, fun e he hs => ?_⟩, h5⟩
  obtain ⟨g, e1, e2, e3, e4⟩ := h4 e he hs
  exact ⟨g, e1, e2, e3, e4.below h⟩⟩
theorem callI_start {w : World} (h : N0 ≤ w.heap.size) : CallI N0 F kc dep al (fun _ => false) (fun _ => undef) w :=
  ⟨h, ⟨fun _ => False, fun _ h => h.elim, (fun _ _ h => by cases h), (fun _ _ h => by cases h)⟩, (fun _ _ _ _ _ h => by cases h)⟩
variable {w0 : World} {o : Oper} {a : Act} {f : Nat → Value}
theorem updS_same (s : Nat → Bool) (k : Nat) : updS s k k = true := if_pos rfl
theorem updS_other (s : Nat → Bool) {k j : Nat} (h : j ≠ k) : updS s k j = s j := if_neg h
theorem growUpon_mono {Φ Φ' : Value → World → Prop} {W : World} {r : Result Next} (h : growUpon P LeB Φ W r) (hm : ∀ v W', LeB W W' → Φ v W' → Φ' v W') : growUpon P LeB Φ' W r := by
  cases r with
  | ok nx W' =>
    cases nx <;> simp only [growUpon] at h ⊢
    · exact ⟨h.1, hm _ _ h.1 h.2⟩
    · exact ⟨h.1, h.2.mono fun e W'' ⟨v, he, hle, hp⟩ => ⟨v, he, hle, hm _ _ (h.1.trans hle) hp⟩⟩
  | halt x W' => simp only [growUpon] at h
theorem stable_nil : ∀ e ∈ ([] : List (Nat × PropD)), StableD e.2 := fun e h => by cases h
theorem stable_cons {k : Nat} {Φ : PropD} {l : List (Nat × PropD)} (h : StableD Φ) (t : ∀ e ∈ l, StableD e.2) : ∀ e ∈ (k, Φ) :: l, StableD e.2 := fun e he => by
  rcases List.mem_cons.1 he with rfl | he
  · exact h
  · exact t e he
/-- the call -/
theorem callI_call {Φ : PropD} (hN : N0 ≤ w0.heap.size) (hF : ∀ b, F b → b < N0) (hk : ∀ e ∈ dep, e.1 = kc → e.2 = Φ) (hal : ∀ e ∈ al, e.1 ≠ kc)
    (hc : ∀ p : LaterG LeB w0, growUpon P LeB (fun v W' => Φ (fun b => (F b ∨ p.W.heap.size ≤ b) ∧ b < W'.heap.size) v W') p.W ((execOp a.eval o).run P p.W)) :
    gheavyI P LeB w0 (CallI N0 F kc dep al) [] kc o a f := by
  intro p s f' _ hs hI
  refine growUpon_mono (hc p) fun v W' hle hp => ?_
  obtain ⟨h1, ⟨D, h2, h3, h4⟩, h5⟩ := hI
  refine ⟨Nat.le_trans h1 hle.size, ⟨fun b => (F b ∨ p.W.heap.size ≤ b) ∧ b < W'.heap.size, fun b hb => ⟨hb.1.imp id (fun h => Nat.le_trans h1 h), hb.2⟩, fun e he hse => ?_, fun e he hse => ?_⟩, fun e he e' he' hne hse hse' => ?_⟩
  · refine ⟨updS_same _ _, ?_⟩
    by_cases hek : e.1 = kc
    · rw [hek, upd_same, hk e he hek]; exact hp
    · rw [updS_other _ hek] at hse
      have := (h3 e he hse).1
      rw [hs] at this
      cases this
  · have hek := hal e he
    rw [updS_other _ hek] at hse
    obtain ⟨g, e1, e2, e3, e4⟩ := h4 e he hse
    refine ⟨g, by rw [upd_other _ _ hek]; exact e1, e2, fun hb => ?_, e4.below hle⟩
    have := e4.lt
    rcases hb.1 with h | h
    · have := hF g h; omega
    · omega
  · rw [updS_other _ (hal e he)] at hse
    rw [updS_other _ (hal e' he')] at hse'
    rw [upd_other _ _ (hal e he), upd_other _ _ (hal e' he')]
    exact h5 e he e' he' hne hse hse'
/-- what is taken out of what has come -/
theorem callI_dep {k j : Nat} {Φ Ψ : PropD} (hj : (j, Φ) ∈ dep) (hkc : k ≠ kc) (hk : ∀ e ∈ dep, e.1 = k → e.2 = Ψ) (hal : ∀ e ∈ al, e.1 ≠ k)
    (hc : ∀ (p : LaterG LeB w0) (D : Nat → Prop), Φ D (f j) p.W → growUpon P LeB (fun u W' => W' = p.W ∧ Ψ D u W') p.W ((execOp a.eval o).run P p.W)) :
    gheavyI P LeB w0 (CallI N0 F kc dep al) [j] k o a f := by
  intro p s f' hd hs hI
  obtain ⟨h1, ⟨D, h2, h3, h4⟩, h5⟩ := hI
  obtain ⟨hsj, hfj⟩ := hd j (by simp)
  obtain ⟨hskc, hΦ⟩ := h3 _ hj hsj
  simp only at hΦ
  rw [hfj] at hΦ
  refine growUpon_mono (hc p D hΦ) fun u W' _ ⟨hW', hΨ⟩ => ?_
  subst hW'
  refine ⟨h1, ⟨D, h2, fun e he hse => ?_, fun e he hse => ?_⟩, fun e he e' he' hne hse hse' => ?_⟩
  · refine ⟨by rw [updS_other _ hkc.symm]; exact hskc, ?_⟩
    by_cases hek : e.1 = k
    · rw [hek, upd_same, hk e he hek]; exact hΨ
    · rw [updS_other _ hek] at hse
      rw [upd_other _ _ hek]
      exact (h3 e he hse).2
  · have hek := hal e he
    rw [updS_other _ hek] at hse
    rw [upd_other _ _ hek]
    exact h4 e he hse
  · rw [updS_other _ (hal e he)] at hse
    rw [updS_other _ (hal e' he')] at hse'
    rw [upd_other _ _ (hal e he), upd_other _ _ (hal e' he')]
    exact h5 e he e' he' hne hse hse'
/-- a variable -/
theorem callI_alloc {k : Nat} {cs : Array Value} {t : TypeId} (hkc : k ≠ kc) (hdep : ∀ e ∈ dep, e.1 ≠ k) (hal : ∀ e ∈ al, e.1 = k → e.2 = (cs, t))
    (hd : ∀ e ∈ dep, StableD e.2)
    (hc : ∀ p : LaterG LeB w0, growUpon P LeB (fun u W' => u = .pointer (some ⟨p.W.heap.size, 0, none⟩) ∧ W' = p.W.alloc (.cells cs t)) p.W ((execOp a.eval o).run P p.W)) :
    gheavyI P LeB w0 (CallI N0 F kc dep al) [] k o a f := by
  intro p s f' _ hs hI
  refine growUpon_mono (hc p) fun u W' hle ⟨hu, hW'⟩ => ?_
  subst hu hW'
  obtain ⟨h1, ⟨D, h2, h3, h4⟩, h5⟩ := hI
  refine ⟨Nat.le_trans h1 hle.size, ⟨D, fun b hb => ⟨(h2 b hb).1, Nat.lt_of_lt_of_le (h2 b hb).2 hle.size⟩, fun e he hse => ?_, fun e he hse => ?_⟩, fun e he e' he' hne hse hse' => ?_⟩
  · have hek := hdep e he
    rw [updS_other _ hek] at hse
    rw [updS_other _ hkc.symm, upd_other _ _ hek]
    exact ⟨(h3 e he hse).1, hd e he (fun b hb => (h2 b hb).2) hle (h3 e he hse).2⟩
  · by_cases hek : e.1 = k
    · rw [hek, upd_same, hal e he hek]
      exact ⟨_, rfl, h1, fun hb => Nat.lt_irrefl _ (h2 _ hb).2, Box.new _ _ _⟩
    · rw [updS_other _ hek] at hse
      rw [upd_other _ _ hek]
      obtain ⟨g, e1, e2, e3, e4⟩ := h4 e he hse
      exact ⟨g, e1, e2, e3, e4.below hle⟩
  · have key : ∀ e ∈ al, e.1 ≠ k → s e.1 = true → f' e.1 ≠ .pointer (some ⟨p.W.heap.size, 0, none⟩) := fun e he hek hse heq => by
      obtain ⟨g, e1, _, _, e4⟩ := h4 e he hse
      rw [e1] at heq
      cases heq
      exact Nat.lt_irrefl _ e4.lt
    by_cases hek : e.1 = k
    · have hek' : e'.1 ≠ k := fun h => hne (hek.trans h.symm)
      rw [updS_other _ hek'] at hse'
      rw [hek, upd_same, upd_other _ _ hek']
      exact (key e' he' hek' hse').symm
    · rw [updS_other _ hek] at hse
      by_cases hek' : e'.1 = k
      · rw [hek', upd_same, upd_other _ _ hek]
        exact key e he hek hse
      · rw [updS_other _ hek'] at hse'
        rw [upd_other _ _ hek, upd_other _ _ hek']
        exact h5 e he e' he' hne hse hse'
end
end Go.Proofs.Ytfndjciojljkfaa

namespace Go.Proofs.Ytfndjciojljkfaa
set_option linter.unusedSimpArgs false
set_option linter.unusedVariables false
open Go.RowKit
/-- nothing but blocks of S has been written -/
structure Step (S : List Nat) (w w' : World) : Prop where
  os : w'.os = w.os
  tape : w'.tape = w.tape
  output : w'.output = w.output
  size : w.heap.size ≤ w'.heap.size
  block : ∀ b, b < w.heap.size → b ∉ S → w'.heap[b]? = w.heap[b]?
section
variable {S S' : List Nat} {a w w' : World}
theorem Step.refl (S : List Nat) (w : World) : Step S w w := ⟨rfl, rfl, rfl, Nat.le_refl _, fun _ _ _ => rfl⟩
theorem Step.trans (h : Step S a w) (k : Step S w w') : Step S a w' :=
  ⟨k.os.trans h.os, k.tape.trans h.tape, k.output.trans h.output, Nat.le_trans h.size k.size, fun b h1 h2 => (k.block b (Nat.lt_of_lt_of_le h1 h.size) h2).trans (h.block b h1 h2)⟩
theorem Step.drew (h : Step S a w) : Step S a w.drew := ⟨h.os, h.tape, h.output, h.size, h.block⟩
theorem Step.drewN (h : Step S a w) (n : Nat) : Step S a (w.drewN n) := ⟨h.os, h.tape, h.output, h.size, h.block⟩
theorem Step.alloc (h : Step S a w) (o : Obj) : Step S a (w.alloc o) :=
  ⟨h.os, h.tape, h.output, Nat.le_trans h.size (by simp), fun b h1 h2 => (Below.heap_alloc w o b (Nat.lt_of_lt_of_le h1 h.size)).trans (h.block b h1 h2)⟩
theorem Step.set (h : Step S a w) {p : Addr} (hp : p.block ∈ S ∨ a.heap.size ≤ p.block) (u : Value) : Step S a (w.setCell p u) :=
  ⟨h.os, h.tape, h.output, by simpa [World.setCell] using h.size, fun b h1 h2 => (Below.heap_setCell w p u b (by
    rintro rfl
    rcases hp with hp | hp
    · exact h2 hp
    · omega)).trans (h.block b h1 h2)⟩
theorem Step.setE {p : Addr} {u : Value} (hp : p.block ∈ S ∨ a.heap.size ≤ p.block) (h : Step S a w) : Step S a (w.setCell p u) := h.set hp u
theorem Step.of_below (h : Below w.heap.size w w') : Step S w w' := ⟨h.os, h.tape, h.output, h.size, fun b h1 _ => h.block b h1⟩
theorem Step.below (h : Step S a w) (hb : Below w.heap.size w w') : Step S a w' := h.trans (.of_below hb)
theorem Step.more (h : Step S a w) (hs : ∀ b ∈ S, b ∈ S') : Step S' a w := ⟨h.os, h.tape, h.output, h.size, fun b h1 h2 => h.block b h1 (fun h3 => h2 (hs b h3))⟩
/-- all that may be written is new -/
theorem Step.to_below (h : Step S a w) (hs : ∀ b ∈ S, a.heap.size ≤ b) : Below a.heap.size a w :=
  ⟨h.os, h.tape, h.output, h.size, fun b hb => h.block b hb (fun h1 => by have := hs b h1; omega)⟩
theorem Box.step {b : Nat} {cs : Array Value} {t : TypeId} (h : Box w b cs t) (hs : Step S w w') (hb : b ∉ S) : Box w' b cs t := (hs.block b h.lt hb).trans h
/-- where the data lie: G: those of the arguments or new ones; not in what may be written -/
def Dom (G : Nat → Prop) (S : List Nat) (w : World) : Nat → Prop := fun b => G b ∧ b < w.heap.size ∧ b ∉ S
section
variable {α : Type} {sz : Nat} {R : RepT α} {G : Nat → Prop} {x : α} {cs : List Value}
theorem Good.step (g : Good sz R) (h : R (Dom G S w) w x cs) (hs : Step S w w') : R (Dom G S w') w' x cs :=
  g.keep (fun _ hb => ⟨hb.1, Nat.lt_of_lt_of_le hb.2.1 hs.size, hb.2.2⟩) (fun b hb => hs.block b hb.2.1 hb.2.2) h
/-- new blocks may be written from now on -/
theorem Good.stepM (g : Good sz R) (h : R (Dom G S w) w x cs) (hs : Step S' w w') (hn : ∀ b ∈ S', b ∈ S ∨ w.heap.size ≤ b) : R (Dom G S' w') w' x cs :=
  g.keep (fun b hb => ⟨hb.1, Nat.lt_of_lt_of_le hb.2.1 hs.size, fun h1 => (hn b h1).elim hb.2.2 (fun h2 => by have := hb.2.1; omega)⟩)
    (fun b hb => hs.block b hb.2.1 (fun h1 => (hn b h1).elim hb.2.2 (fun h2 => by have := hb.2.1; omega))) h
/-- what a call hands back -/
theorem Good.back (g : Good sz R) (h : R (Fr (Dom G S w) w w') w' x cs) (hG : ∀ b, w.heap.size ≤ b → G b) (hs : ∀ b ∈ S, b < w.heap.size) : R (Dom G S w') w' x cs :=
  g.keep (fun b hb => ⟨hb.1.elim (fun h1 => h1.1) (hG b), hb.2, hb.1.elim (fun h1 => h1.2.2) (fun h1 h2 => by have := hs b h2; omega)⟩) (fun _ _ => rfl) h
theorem Good.now_ (g : Good sz R) (h : R (Dom G S w) w x cs) : R (Now w) w x cs := g.keep (fun _ hb => hb.2.1) (fun _ _ => rfl) h
theorem dom_lt (b : Nat) (h : Dom G S w b) : b < w.heap.size := h.2.1
/-- at the beginning -/
theorem Good.enter {F : Nat → Prop} (g : Good sz R) (h : R F a x cs) (hF : ∀ b, F b → b < a.heap.size) (hs : Step S a w) (hS : ∀ b ∈ S, a.heap.size ≤ b) : R (Dom (fun b => F b ∨ a.heap.size ≤ b) S w) w x cs :=
  g.keep (fun b hb => ⟨.inl hb, Nat.lt_of_lt_of_le (hF b hb) hs.size, fun h1 => by have := hS b h1; have := hF b hb; omega⟩) (fun b hb => hs.block b (hF b hb) (fun h1 => by have := hS b h1; have := hF b hb; omega)) h
/-- at the beginning of a law -/
theorem Good.enterT (g : Good sz R) (h : R (Now a) a x cs) (hs : Step S a w) (hS : ∀ b ∈ S, a.heap.size ≤ b) : R (Dom (fun _ => True) S w) w x cs :=
  g.keep (fun b hb => ⟨trivial, Nat.lt_of_lt_of_le hb hs.size, fun h1 => by have := hS b h1; have : b < a.heap.size := hb; omega⟩) (fun b hb => hs.block b hb (fun h1 => by have := hS b h1; have : b < a.heap.size := hb; omega)) h
/-- at the end -/
theorem Good.leave {F : Nat → Prop} (g : Good sz R) (h : R (Dom (fun b => F b ∨ a.heap.size ≤ b) S w) w x cs) (hs : Step S w w') : R (Fr F a w') w' x cs :=
  g.keep (fun _ hb => ⟨hb.1, Nat.lt_of_lt_of_le hb.2.1 hs.size⟩) (fun b hb => hs.block b hb.2.1 hb.2.2) h
end
end
theorem Box.newE (w : World) (b : Nat) (cs : Array Value) (t : TypeId) (h : b = w.heap.size) : Box (w.alloc (.cells cs t)) b cs t := by subst h; exact Box.new w cs t
theorem Box.setE {w : World} {b o : Nat} {cs cs' : Array Value} {t : TypeId} {v : Value} (h : Box w b cs t) (e : cs.setIfInBounds o v = cs') : Box (w.setCell ⟨b, o, none⟩ v) b cs' t := by subst e; exact h.set o v
theorem Box.otherE {w : World} {b b' o : Nat} {cs : Array Value} {t : TypeId} {v : Value} (hne : b ≠ b') (h : Box w b cs t) : Box (w.setCell ⟨b', o, none⟩ v) b cs t := h.other hne v
/-- a name for the world -/
theorem wp_name {P : Program} {c : Code} {Q : Exit → Act → World → Prop} {a : Act} {w : World} (h : ∀ W, W = w → c.wp P Q a W) : c.wp P Q a w := h w rfl
theorem post_name {P : Program} {fn : Func} {R : Ending → World → Prop} {e : Exit} {a : Act} {w : World} (h : ∀ W, W = w → bodyPost P fn R e a W) : bodyPost P fn R e a w := h w rfl
theorem cell_step {w w' : World} {b o : Nat} {v : Value} (h : w.cell? ⟨b, o, none⟩ = some v) (hs : Step [] w w') : w'.cell? ⟨b, o, none⟩ = some v := cell_kept (hs.block b (World.block_lt_of_cell? _ _ h) (fun h => by cases h)) h
/-- a variable's address -/
def PtrAt (cs : Array Value) (t : TypeId) (v : Value) (W : World) : Prop := ∃ g, v = .pointer (some ⟨g, 0, none⟩) ∧ Box W g cs t
theorem ptrAt_stable (cs : Array Value) (t : TypeId) : StableV (PtrAt cs t) := fun h ⟨g, e, hb⟩ => ⟨g, e, hb.below h⟩
theorem noS (w : World) : ∀ b ∈ ([] : List Nat), w.heap.size ≤ b := fun b h => by cases h
theorem noL (w : World) : ∀ b ∈ ([] : List Nat), b < w.heap.size := fun b h => by cases h
end Go.Proofs.Ytfndjciojljkfaa

namespace Go.Proofs.Ytfndjciojljkfaa
set_option linter.unusedSimpArgs false
set_option linter.unusedVariables false
open Go.RowKit
open Go.Maps (Keyed)
def heldR (v : Value) : Option (DataW Value × List MemPlace) := some (.held v, [])
open Classical in
/-- f, with val under key -/
noncomputable def setK (f : Value → Option Value) (key val : Value) : Value → Option Value := fun x => if x = key then some val else f x
theorem setK_same {f : Value → Option Value} {key val : Value} : setK f key val key = some val := by simp [setK]
theorem setK_other {f : Value → Option Value} {key val x : Value} (h : x ≠ key) : setK f key val x = f x := by simp [setK, h]
/-- block b is a map of at most n entries; under each key of its type it holds what f says -/
def MapAt (P : Program) (k : TypeId) (w : World) (b n : Nat) (f : Value → Option Value) : Prop :=
  ∃ D : DataW Value, w.ownsMap P k heldR b n D ∧ ∀ key kl, keyOf P k key = some kl → ∀ zd, D.atKey kl zd = ((f key).map DataW.held).getD zd
section
variable {P : Program} {k : TypeId} {w w' : World} {b n : Nat} {f : Value → Option Value}
theorem MapAt.made (w : World) (P : Program) (k : TypeId) : MapAt P k (w.alloc (.map #[] 0)) w.heap.size 0 (fun _ => none) :=
  ⟨_, World.ownsMap_made w P k heldR, fun _ _ _ _ => rfl⟩
theorem MapAt.same (h : MapAt P k w b n f) (hb : w'.heap[b]? = w.heap[b]?) : MapAt P k w' b n f := by
  obtain ⟨D, ⟨es, clock, h1, h2, h3, h4⟩, hf⟩ := h
  exact ⟨D, ⟨es, clock, hb.trans h1, h2, h3, h4⟩, hf⟩
theorem MapAt.lt (h : MapAt P k w b n f) : b < w.heap.size := by
  obtain ⟨D, h1, _⟩ := h
  exact h1.lt
theorem MapAt.below (h : MapAt P k w b n f) (hb : Below w.heap.size w w') : MapAt P k w' b n f := h.same (hb.block b h.lt)
theorem MapAt.step {N : List Nat} (h : MapAt P k w b n f) (hs : Step N w w') (hn : b ∉ N) : MapAt P k w' b n f := h.same (hs.block b h.lt hn)
theorem MapAt.mono {m : Nat} (h : MapAt P k w b n f) (hn : n ≤ m) : MapAt P k w b m f := by
  obtain ⟨D, h1, h2⟩ := h
  exact ⟨D, h1.mono hn, h2⟩
theorem MapAt.look {t e : TypeId} (h : MapAt P k w b n f) (c : Bool) (K : Keyed P k) (ht : P.underlying t = some (.map k e)) {z : Value} (hz : (zeroValue e).run P w = .ok z w) {key : Value} {kl : Lit} (hkey : keyOf P k key = some kl) :
    (Instr.lookup t (.map (some b)) key c).run P w = .ok (if c then .tuple #[(f key).getD z, .bool (f key).isSome] else (f key).getD z) w := by
  obtain ⟨D, ⟨es, clock, hb, F, _, rfl⟩, hf⟩ := h
  have hfk := hf key kl hkey
  rcases Maps.fit_look c K ht hz hb F hkey with ⟨hrun, _, hat⟩ | ⟨e0, y, _, _, hrun, hR, hat, _⟩
  · have : f key = none := by
      cases hv : f key with
      | none => rfl
      | some v =>
        have h1 := hfk .nil
        rw [hat, hv] at h1
        cases h1
    rw [hrun, this]
    rfl
  · have hy : y.1 = .held e0.val := by
      unfold heldR at hR
      cases hR
      rfl
    have : f key = some e0.val := by
      have h1 := hfk .nil
      rw [hat, hy] at h1
      cases hv : f key with
      | none => rw [hv] at h1; cases h1
      | some v => rw [hv] at h1; cases h1; rfl
    rw [hrun, this]
    rfl
theorem MapAt.store {t e : TypeId} (h : MapAt P k w b n f) (K : Keyed P k) (ht : P.underlying t = some (.map k e)) (hn : n < maxLen) {key val : Value} {kl : Lit} (hkey : keyOf P k key = some kl) :
    ∃ w', (Instr.mapUpdate t (.map (some b)) key val).run P w = .ok () w' ∧ MapAt P k w' b (n + 1) (setK f key val) ∧ w.grownBy w' (some b) := by
  obtain ⟨D, h1, hf⟩ := h
  have hm : Maps.IsMap D := by
    obtain ⟨es, clock, _, _, _, rfl⟩ := h1
    exact ⟨_, rfl⟩
  obtain ⟨w', hrun, h2, hg⟩ := h1.update K ht hn hkey (val := val) (d := .held val) (ps := []) rfl
  refine ⟨w', hrun, ⟨_, h2, fun x xl hx zd => ?_⟩, hg⟩
  by_cases he : x = key
  · subst he
    rw [hx] at hkey
    cases hkey
    rw [Maps.atKey_put_same hm (K.key hx), setK_same]
    rfl
  · rw [setK_other he, Maps.atKey_put_other (fun e => he (K.inj hx (by rw [e]; exact hkey))), hf x xl hx]
/-- m[key] = val at the operation -/
theorem wpList_store {ops : Array Oper} {rest : List Oper} {o : Oper} {a : Act} {Q : Exit → Act → World → Prop} (w : World)
    (hg : o.guard = none) (m x v : Operand) (t : TypeId) (hop : o.op = Op.mapUpdate t m x v) (k e : TypeId) (K : Keyed P k) (ht : P.underlying t = some (.map k e)) (b n : Nat) (f : Value → Option Value)
    (hm : a.eval m = .map (some b)) (h : MapAt P k w b n f) (hn : n < maxLen) (key val : Value) (kl : Lit) (hx : a.eval x = key) (hv : a.eval v = val) (hkey : keyOf P k key = some kl)
    (hK : ∀ w', MapAt P k w' b (n + 1) (setK f key val) → w.grownBy w' (some b) → wpList P ops Q rest (a.put o.dst undef) w') :
    wpList P ops Q (o :: rest) a w := by
  refine wpList_plain hg fun K' hK' => ?_
  obtain ⟨w', hrun, r1, r2⟩ := h.store K ht hn hkey (val := val)
  unfold Oper.wp
  simp [execOp, hop, hm, hx, hv, hrun, Result.andThen]
  exact hK' _ _ (hK w' r1 r2)
/-- m[key], or v, ok := m[key], at the operation -/
theorem wpList_look {ops : Array Oper} {rest : List Oper} {o : Oper} {a : Act} {Q : Exit → Act → World → Prop} (w : World) (c : Bool)
    (hg : o.guard = none) (m x : Operand) (t : TypeId) (hop : o.op = Op.lookup t m x c) (k e : TypeId) (K : Keyed P k) (ht : P.underlying t = some (.map k e)) {z : Value} (hz : (zeroValue e).run P w = .ok z w) (b n : Nat) (f : Value → Option Value)
    (hm : a.eval m = .map (some b)) (h : MapAt P k w b n f) (key : Value) (kl : Lit) (hx : a.eval x = key) (hkey : keyOf P k key = some kl)
    (hK : wpList P ops Q rest (a.put o.dst (if c then .tuple #[(f key).getD z, .bool (f key).isSome] else (f key).getD z)) w) :
    wpList P ops Q (o :: rest) a w := by
  refine wpList_plain hg fun K' hK' => ?_
  have hrun := h.look c K ht hz hkey
  obtain ⟨v, hv⟩ : ∃ v, v = (if c then .tuple #[(f key).getD z, .bool (f key).isSome] else (f key).getD z) := ⟨_, rfl⟩
  rw [← hv] at hrun hK
  unfold Oper.wp
  simp [execOp, hop, hm, hx, hrun, Result.andThen]
  exact hK' _ _ hK
end
end Go.Proofs.Ytfndjciojljkfaa

namespace Go.Proofs.Ytfndjciojljkfaa
set_option linter.unusedSimpArgs false
set_option linter.unusedVariables false
open Go.RowKit
/-- where data lie: cells that nobody writes any more; blocks (maps) that nobody writes any more -/
structure Ft where
  c : Nat → Nat → Prop
  m : Nat → Prop
def Ft.le (F G : Ft) : Prop := (∀ b o, F.c b o → G.c b o) ∧ (∀ b, F.m b → G.m b)
def Ft.none : Ft := ⟨fun _ _ => False, fun _ => False⟩
theorem Ft.le_refl (F : Ft) : F.le F := ⟨fun _ _ h => h, fun _ h => h⟩
theorem Ft.le_trans {F G H : Ft} (h : F.le G) (k : G.le H) : F.le H := ⟨fun b o x => k.1 b o (h.1 b o x), fun b x => k.2 b (h.2 b x)⟩
/-- what lies in F lies on -/
def Kp (F : Ft) (w w' : World) : Prop := (∀ b o u, F.c b o → w.cell? ⟨b, o, none⟩ = some u → w'.cell? ⟨b, o, none⟩ = some u) ∧ (∀ b, F.m b → w'.heap[b]? = w.heap[b]?)
theorem Kp.refl (F : Ft) (w : World) : Kp F w w := ⟨fun _ _ _ _ h => h, fun _ _ => rfl⟩
theorem Kp.trans {F : Ft} {a b c : World} (h : Kp F a b) (k : Kp F b c) : Kp F a c := ⟨fun x o u hf hu => k.1 x o u hf (h.1 x o u hf hu), fun x hf => (k.2 x hf).trans (h.2 x hf)⟩
theorem Kp.le {F G : Ft} {a b : World} (hl : F.le G) (h : Kp G a b) : Kp F a b := ⟨fun x o u hf hu => h.1 x o u (hl.1 x o hf) hu, fun x hf => h.2 x (hl.2 x hf)⟩
theorem Kp.of_blocks {F : Ft} {a b : World} (h1 : ∀ x o, F.c x o → b.heap[x]? = a.heap[x]?) (h2 : ∀ x, F.m x → b.heap[x]? = a.heap[x]?) : Kp F a b :=
  ⟨fun x o u hf hu => cell_kept (h1 x o hf) hu, h2⟩
/-- the kinds of a map's keys: an integer, an array or struct of integers, a string -/
inductive KQ where
  | i
  | p (n : Nat)
  | s
def aggC : List Value → Option (List Int)
  | [] => some []
  | .int .i64 n :: l => (aggC l).map (n :: ·)
  | _ => none
/-- a key as numbers -/
def keyC : KQ → Value → Option (List Int)
  | .i, .int .i64 n => some [n]
  | .p _, .agg cs => aggC cs.toList
  | .s, .string s => some (s.data.toList.map fun b => (b.toNat : Int))
  | _, _ => none
def allI : List Int → Prop
  | [] => True
  | n :: l => (-9223372036854775808 ≤ n ∧ n ≤ 9223372036854775807) ∧ allI l
def fitK : KQ → List Int → Prop
  | .s, c => c.length ≤ 9223372036854775807
  | .p n, c => c.length = n ∧ allI c
  | .i, c => allI c
/-- a map's keys -/
def keysR (q : KQ) : List MapEntry → List (List Int) → Prop
  | [], [] => True
  | e :: ms, c :: cs => (keyC q e.key = some c ∧ fitK q c) ∧ keysR q ms cs
  | _, _ => False
/-- data: a cell's value; a slice (cells of an element, an element that stands for those beyond its end, its elements); a map that nobody writes any more, or nil; a struct (a map's value); the address of cells that nobody writes any more; x: of another kind, by a predicate of its own -/
inductive D where
  | c (v : Value)
  | sl (sz : Nat) (d0 : List D) (es : List (List D))
  | mp (q : KQ) (k : TypeId) (zv : Value) (z0 : D) (cs : List (List Int)) (es : List D)
  | ag (ds : List D)
  | pt (ds : List D)
  | x (R : Ft → World → Value → Prop)
/-- a predicate that holds on while its data lie on -/
def StabX (R : Ft → World → Value → Prop) : Prop := ∀ {F G : Ft} {w w' : World} {v : Value}, F.le G → Kp F w w' → R F w v → R G w' v
mutual
def RD (F : Ft) (w : World) : D → Value → Prop
  | .c u, v => v = u
  | .sl sz _ es, v => ∃ a cap, v = .slice a es.length cap ∧ es.length ≤ cap ∧ es.length ≤ 140737488351232 ∧ RR F w sz a es 0
  | .mp q _ zv z0 cs es, v => RD F w z0 zv ∧ cs.length = es.length ∧ ((v = .map none ∧ cs = []) ∨ ∃ b ms clock, v = .map (some b) ∧ F.m b ∧ w.heap[b]? = some (.map ms clock) ∧ keysR q ms.toList cs ∧ cs.Nodup ∧ RDL F w es (ms.toList.map (·.val)))
  | .ag ds, v => ∃ us : List Value, v = .agg us.toArray ∧ RDL F w ds us ∧ ∀ u ∈ us, u.oneCell' = true
  | .pt ds, v => ∃ b o us, v = .pointer (some ⟨b, o, none⟩) ∧ RDL F w ds us ∧ (∀ u ∈ us, u.oneCell' = true) ∧ ∀ j u, us[j]? = some u → F.c b (o + j) ∧ w.cell? ⟨b, o + j, none⟩ = some u
  | .x R, v => v.oneCell' = true ∧ StabX R ∧ R F w v
def RDL (F : Ft) (w : World) : List D → List Value → Prop
  | [], us => us = []
  | d :: ds, us => ∃ u r, us = u :: r ∧ RD F w d u ∧ RDL F w ds r
def RR (F : Ft) (w : World) (sz : Nat) (a : Option Addr) : List (List D) → Nat → Prop
  | [], _ => True
  | e :: es, k => (∃ b o us, a = some ⟨b, o, none⟩ ∧ RDL F w e us ∧ us.length = sz ∧ (∀ u ∈ us, u.oneCell' = true) ∧ ∀ j u, us[j]? = some u → F.c b (o + k + j) ∧ w.cell? ⟨b, o + k + j, none⟩ = some u) ∧ RR F w sz a es (k + sz)
end
mutual
theorem RD.mono {F G : Ft} {w w' : World} (hl : F.le G) (hk : Kp F w w') : ∀ (d : D) (v : Value), RD F w d v → RD G w' d v
  | .c u, v, h => by simp only [RD] at h ⊢; exact h
  | .sl sz _ es, v, h => by
    simp only [RD] at h ⊢
    obtain ⟨a, cap, h1, h2, h3, h4⟩ := h
    exact ⟨a, cap, h1, h2, h3, RR.mono hl hk es sz a 0 h4⟩
  | .mp q _ zv z0 cs es, v, h => by
    simp only [RD] at h ⊢
    refine ⟨RD.mono hl hk z0 zv h.1, h.2.1, h.2.2.imp id ?_⟩
    rintro ⟨b, ms, clock, h1, h2, h3, h4, h5, h6⟩
    exact ⟨b, ms, clock, h1, hl.2 _ h2, (hk.2 b h2).trans h3, h4, h5, RDL.mono hl hk es _ h6⟩
  | .ag ds, v, h => by
    simp only [RD] at h ⊢
    obtain ⟨us, h1, h2, h3⟩ := h
    exact ⟨us, h1, RDL.mono hl hk ds us h2, h3⟩
  | .pt ds, v, h => by
    simp only [RD] at h ⊢
    obtain ⟨b, o, us, h1, h2, h3, h4⟩ := h
    exact ⟨b, o, us, h1, RDL.mono hl hk ds us h2, h3, fun j u hj => ⟨hl.1 _ _ (h4 j u hj).1, hk.1 _ _ _ (h4 j u hj).1 (h4 j u hj).2⟩⟩
  | .x R, v, h => by
    simp only [RD] at h ⊢
    exact ⟨h.1, h.2.1, h.2.1 hl hk h.2.2⟩
theorem RDL.mono {F G : Ft} {w w' : World} (hl : F.le G) (hk : Kp F w w') : ∀ (ds : List D) (us : List Value), RDL F w ds us → RDL G w' ds us
  | [], us, h => by simp only [RDL] at h ⊢; exact h
  | d :: ds, us, h => by
    simp only [RDL] at h ⊢
    obtain ⟨u, r, h1, h2, h3⟩ := h
    exact ⟨u, r, h1, RD.mono hl hk d u h2, RDL.mono hl hk ds r h3⟩
theorem RR.mono {F G : Ft} {w w' : World} (hl : F.le G) (hk : Kp F w w') : ∀ (es : List (List D)) (sz : Nat) (a : Option Addr) (k : Nat), RR F w sz a es k → RR G w' sz a es k
  | [], sz, a, k, h => by simp only [RR]
  | e :: es, sz, a, k, h => by
    simp only [RR] at h ⊢
    obtain ⟨⟨b, o, us, h1, h2, h3, h4, h5⟩, h6⟩ := h
    exact ⟨⟨b, o, us, h1, RDL.mono hl hk e us h2, h3, h4, fun j u hj => ⟨hl.1 _ _ (h5 j u hj).1, hk.1 _ _ _ (h5 j u hj).1 (h5 j u hj).2⟩⟩, RR.mono hl hk es sz a (k + sz) h6⟩
end
section
variable {F G : Ft} {w w' : World} {sz : Nat} {a : Option Addr}
theorem RDL.len : ∀ {ds : List D} {us : List Value}, RDL F w ds us → us.length = ds.length
  | [], us, h => by simp only [RDL] at h; simp [h]
  | d :: ds, us, h => by
    simp only [RDL] at h
    obtain ⟨u, r, h1, _, h3⟩ := h
    simp [h1, RDL.len h3]
theorem RDL.get : ∀ {ds : List D} {us : List Value} {j : Nat} {d : D}, RDL F w ds us → ds[j]? = some d → ∃ u, us[j]? = some u ∧ RD F w d u
  | [], us, j, d, h, hd => by simp at hd
  | x :: ds, us, 0, d, h, hd => by
    simp only [RDL] at h
    obtain ⟨u, r, h1, h2, h3⟩ := h
    simp at hd
    subst hd
    exact ⟨u, by simp [h1], h2⟩
  | x :: ds, us, j + 1, d, h, hd => by
    simp only [RDL] at h
    obtain ⟨u, r, h1, h2, h3⟩ := h
    obtain ⟨v, h4, h5⟩ := RDL.get (j := j) h3 (by simpa using hd)
    exact ⟨v, by simpa [h1] using h4, h5⟩
theorem RDL.append : ∀ {ds es : List D} {us vs : List Value}, RDL F w ds us → RDL F w es vs → RDL F w (ds ++ es) (us ++ vs)
  | [], es, us, vs, h, k => by simp only [RDL] at h; subst h; exact k
  | d :: ds, es, us, vs, h, k => by
    simp only [RDL] at h
    obtain ⟨u, r, rfl, h2, h3⟩ := h
    exact ⟨u, r ++ vs, rfl, h2, RDL.append h3 k⟩
theorem RDL.drop : ∀ {ds : List D} {us : List Value} (n : Nat), RDL F w ds us → RDL F w (ds.drop n) (us.drop n)
  | ds, us, 0, h => by simpa using h
  | [], us, n + 1, h => by simp only [RDL] at h; subst h; simp [RDL]
  | d :: ds, us, n + 1, h => by
    simp only [RDL] at h
    obtain ⟨u, r, rfl, h2, h3⟩ := h
    simpa using RDL.drop n h3
theorem RDL.take : ∀ {ds : List D} {us : List Value} (n : Nat), RDL F w ds us → RDL F w (ds.take n) (us.take n)
  | ds, us, 0, h => by simp [RDL]
  | [], us, n + 1, h => by simp only [RDL] at h; subst h; simp [RDL]
  | d :: ds, us, n + 1, h => by
    simp only [RDL] at h
    obtain ⟨u, r, rfl, h2, h3⟩ := h
    simp only [List.take_succ_cons, RDL]
    exact ⟨u, r.take n, rfl, h2, RDL.take n h3⟩
theorem RR.get : ∀ {es : List (List D)} {k i : Nat} {e : List D}, RR F w sz a es k → es[i]? = some e →
    ∃ b o us, a = some ⟨b, o, none⟩ ∧ RDL F w e us ∧ us.length = sz ∧ (∀ u ∈ us, u.oneCell' = true) ∧ ∀ j u, us[j]? = some u → F.c b (o + k + i * sz + j) ∧ w.cell? ⟨b, o + k + i * sz + j, none⟩ = some u
  | [], k, i, e, h, he => by simp at he
  | x :: es, k, 0, e, h, he => by
    simp only [RR] at h
    simp at he
    subst he
    simpa using h.1
  | x :: es, k, i + 1, e, h, he => by
    simp only [RR] at h
    obtain ⟨b, o, us, h1, h2, h3, h4, h5⟩ := RR.get (i := i) h.2 (by simpa using he)
    refine ⟨b, o, us, h1, h2, h3, h4, fun j u hj => ?_⟩
    have := h5 j u hj
    rw [show o + (k + sz) + i * sz + j = o + k + (i + 1) * sz + j by rw [Nat.add_mul]; omega] at this
    exact this
theorem RR.drop : ∀ {es : List (List D)} {k : Nat} (n : Nat), RR F w sz a es k → RR F w sz a (es.drop n) (k + n * sz)
  | es, k, 0, h => by simpa using h
  | [], k, n + 1, h => by simp [RR]
  | x :: es, k, n + 1, h => by
    simp only [RR] at h
    have := RR.drop n h.2
    rw [show k + sz + n * sz = k + (n + 1) * sz by rw [Nat.add_mul]; omega] at this
    simpa using this
theorem RR.take : ∀ {es : List (List D)} {k : Nat} (n : Nat), RR F w sz a es k → RR F w sz a (es.take n) k
  | es, k, 0, h => by simp [RR]
  | [], k, n + 1, h => by simp [RR]
  | x :: es, k, n + 1, h => by
    simp only [RR] at h
    simp only [List.take_succ_cons, RR]
    exact ⟨h.1, RR.take n h.2⟩
/-- from another address on -/
theorem RR.shift {b o : Nat} (n : Nat) : ∀ {es : List (List D)} {k : Nat}, RR F w sz (some ⟨b, o, none⟩) es (k + n) → RR F w sz (some ⟨b, o + n, none⟩) es k
  | [], k, h => by simp [RR]
  | x :: es, k, h => by
    simp only [RR] at h ⊢
    obtain ⟨⟨b', o', us, h1, h2, h3, h4, h5⟩, h6⟩ := h
    cases h1
    refine ⟨⟨b, o + n, us, rfl, h2, h3, h4, fun j u hj => ?_⟩, RR.shift n (k := k + sz) (by rw [show k + sz + n = k + n + sz by omega]; exact h6)⟩
    rw [show o + n + k + j = o + (k + n) + j by omega]
    exact h5 j u hj
/-- out of cells, one datum's behind the other's -/
theorem RR.of_cells {b o : Nat} : ∀ {es : List (List D)} {us : List Value} {k : Nat}, RDL F w es.flatten us → (∀ e ∈ es, e.length = sz) → (∀ u ∈ us, u.oneCell' = true) → (∀ j u, us[j]? = some u → F.c b (o + k + j) ∧ w.cell? ⟨b, o + k + j, none⟩ = some u) → RR F w sz (some ⟨b, o, none⟩) es k
  | [], us, k, _, _, _, _ => by simp [RR]
  | e :: es, us, k, h, hz, h1, hc => by
    simp only [List.flatten_cons] at h
    have hes : e.length = sz := hz e (by simp)
    have t1 := h.take e.length
    have t2 := h.drop e.length
    simp only [List.take_left', List.drop_left'] at t1 t2
    have hl := t1.len
    rw [RR]
    refine ⟨⟨b, o, us.take e.length, rfl, t1, by omega, fun u hu => h1 u (List.mem_of_mem_take hu), fun j u hj => hc j u ?_⟩, ?_⟩
    · rw [List.getElem?_take] at hj
      split at hj
      · exact hj
      · cases hj
    · refine RR.of_cells t2 (fun x hx => hz x (by simp [hx])) (fun u hu => h1 u (List.mem_of_mem_drop hu)) (fun j u hj => ?_)
      rw [List.getElem?_drop] at hj
      have := hc _ u hj
      rw [show o + (k + sz) + j = o + k + (e.length + j) by omega]
      exact this
/-- out of a row, its cells -/
theorem RR.cells {b o : Nat} : ∀ {es : List (List D)} {k : Nat}, RR F w sz (some ⟨b, o, none⟩) es k → ∃ us, RDL F w es.flatten us ∧ us.length = es.length * sz ∧ (∀ u ∈ us, u.oneCell' = true) ∧ (∀ e ∈ es, e.length = sz) ∧ ∀ j u, us[j]? = some u → F.c b (o + k + j) ∧ w.cell? ⟨b, o + k + j, none⟩ = some u
  | [], k, _ => ⟨[], by simp [RDL], by simp, by simp, by simp, by simp⟩
  | e :: es, k, h => by
    simp only [RR] at h
    obtain ⟨⟨b', o', us, h1, h2, h3, h4, h5⟩, h6⟩ := h
    cases h1
    obtain ⟨vs, g1, g2, g3, g4, g5⟩ := RR.cells h6
    have hl := h2.len
    refine ⟨us ++ vs, by simpa using h2.append g1, by rw [List.length_append, g2, List.length_cons, Nat.add_mul]; omega, ?_, ?_, fun j u hj => ?_⟩
    · intro u hu
      rcases List.mem_append.1 hu with hu | hu
      · exact h4 u hu
      · exact g3 u hu
    · intro x hx
      rcases List.mem_cons.1 hx with rfl | hx
      · omega
      · exact g4 x hx
    · by_cases hj' : j < us.length
      · rw [List.getElem?_append_left hj'] at hj
        exact h5 j u hj
      · rw [List.getElem?_append_right (by omega)] at hj
        have := g5 _ u hj
        rw [show o + (k + sz) + (j - us.length) = o + k + j by omega] at this
        exact this
theorem RR.none_nil : ∀ {es : List (List D)} {k : Nat}, RR F w sz none es k → es = []
  | [], _, _ => rfl
  | e :: es, k, h => by
    simp only [RR] at h
    obtain ⟨⟨b, o, us, h1, _⟩, _⟩ := h
    cases h1
/-- nil -/
theorem RD.nil_sl (F : Ft) (w : World) (sz : Nat) (d0 : List D) : RD F w (.sl sz d0 []) (.slice none 0 0) := by
  simp only [RD]
  exact ⟨none, 0, rfl, Nat.le_refl _, by simp, by simp [RR]⟩
end
end Go.Proofs.Ytfndjciojljkfaa

namespace Go.Proofs.Ytfndjciojljkfaa
set_option linter.unusedSimpArgs false
set_option linter.unusedVariables false
open Go.RowKit
/-- a value by what it is: nothing known; data; the address of a cell of an own block; of a cell of an element of data; an own row (data, with its handle); an own row that is written; .. -/
inductive V where
  | any
  | d (x : D)
  | ptr (n off : Nat)
  | elt (sz : Nat) (d0 : List D) (es : List (List D)) (i off : Nat)
  | ow (n sz : Nat) (d0 : List D) (es : List (List D))
  | mo (n : Nat)
  | oel (n sz i off : Nat)
  | mp (n : Nat)
  | yl (n : Nat)
  | agg (cs : List V)
  | tup (vs : List V)
  | fn (f : FuncId) (cap : List V)
  | cond (g : Bool) (v : V)
structure Env where
  η : Nat → Option Value
  F : Ft
  w : World
  dp : Nat → Prop
mutual
def RV (E : Env) : V → Value → Prop
  | .any, _ => True
  | .d x, v => RD E.F E.w x v
  | .ptr n off, v => ∃ b, E.η n = some (.pointer (some ⟨b, 0, none⟩)) ∧ v = .pointer (some ⟨b, off, none⟩)
  | .elt sz _ es i off, v => ∃ b o, v = .pointer (some ⟨b, o + i * sz + off, none⟩) ∧ RR E.F E.w sz (some ⟨b, o, none⟩) es 0
  | .ow n sz d0 es, v => E.η n = some v ∧ RD E.F E.w (.sl sz d0 es) v
  | .mo n, v => E.η n = some v ∧ ∃ a l c, v = .slice a l c
  | .oel n sz i off, v => ∃ b l c, E.η n = some (.slice (some ⟨b, 0, none⟩) l c) ∧ v = .pointer (some ⟨b, i * sz + off, none⟩)
  | .mp n, v => E.η n = some v ∧ ∃ b, v = .map (some b)
  | .yl n, v => E.η n = some v ∧ ∃ b, v = .func (.yield b) #[] #[]
  | .agg cs, v => ∃ us : List Value, v = .agg us.toArray ∧ RVL E cs us ∧ ∀ u ∈ us, u.oneCell' = true
  | .tup vs, v => ∃ us : List Value, v = .tuple us.toArray ∧ RVL E vs us
  | .fn f cap, v => ∃ us : List Value, v = .func (.func f) #[] us.toArray ∧ RVL E cap us
  | .cond g x, v => (g = true → RV E x v) ∧ (g = false → v = undef)
def RVL (E : Env) : List V → List Value → Prop
  | [], us => us = []
  | x :: xs, us => ∃ u r, us = u :: r ∧ RV E x u ∧ RVL E xs r
end
/-- names keep what they stand for, data lie on -/
structure Ext (E E' : Env) : Prop where
  η : ∀ n v, E.η n = some v → E'.η n = some v
  F : E.F.le E'.F
  k : Kp E.F E.w E'.w
theorem Ext.refl (E : Env) : Ext E E := ⟨fun _ _ h => h, Ft.le_refl _, Kp.refl _ _⟩
theorem Ext.trans {A B C : Env} (h : Ext A B) (k : Ext B C) : Ext A C := ⟨fun n v x => k.η n v (h.η n v x), Ft.le_trans h.F k.F, h.k.trans (k.k.le h.F)⟩
mutual
theorem RV.mono {E E' : Env} (h : Ext E E') : ∀ (x : V) (v : Value), RV E x v → RV E' x v
  | .any, v, k => by simp only [RV]
  | .d x, v, k => by simp only [RV] at k ⊢; exact RD.mono h.F h.k x v k
  | .ptr n off, v, k => by simp only [RV] at k ⊢; obtain ⟨b, h1, h2⟩ := k; exact ⟨b, h.η _ _ h1, h2⟩
  | .elt sz _ es i off, v, k => by simp only [RV] at k ⊢; obtain ⟨b, o, h1, h2⟩ := k; exact ⟨b, o, h1, RR.mono h.F h.k _ _ _ _ h2⟩
  | .ow n sz _ es, v, k => by simp only [RV] at k ⊢; exact ⟨h.η _ _ k.1, RD.mono h.F h.k _ _ k.2⟩
  | .mo n, v, k => by simp only [RV] at k ⊢; exact ⟨h.η _ _ k.1, k.2⟩
  | .oel n sz i off, v, k => by simp only [RV] at k ⊢; obtain ⟨b, l, c, h1, h2⟩ := k; exact ⟨b, l, c, h.η _ _ h1, h2⟩
  | .mp n, v, k => by simp only [RV] at k ⊢; exact ⟨h.η _ _ k.1, k.2⟩
  | .yl n, v, k => by simp only [RV] at k ⊢; exact ⟨h.η _ _ k.1, k.2⟩
  | .agg cs, v, k => by simp only [RV] at k ⊢; obtain ⟨us, h1, h2, h3⟩ := k; exact ⟨us, h1, RVL.mono h cs us h2, h3⟩
  | .tup cs, v, k => by simp only [RV] at k ⊢; obtain ⟨us, h1, h2⟩ := k; exact ⟨us, h1, RVL.mono h cs us h2⟩
  | .fn f cs, v, k => by simp only [RV] at k ⊢; obtain ⟨us, h1, h2⟩ := k; exact ⟨us, h1, RVL.mono h cs us h2⟩
  | .cond g x, v, k => by simp only [RV] at k ⊢; exact ⟨fun hg => RV.mono h x v (k.1 hg), k.2⟩
theorem RVL.mono {E E' : Env} (h : Ext E E') : ∀ (xs : List V) (us : List Value), RVL E xs us → RVL E' xs us
  | [], us, k => by simp only [RVL] at k ⊢; exact k
  | x :: xs, us, k => by
    simp only [RVL] at k ⊢
    obtain ⟨u, r, h1, h2, h3⟩ := k
    exact ⟨u, r, h1, RV.mono h x u h2, RVL.mono h xs r h3⟩
end
section
variable {E E' : Env}
theorem RVL.len : ∀ {xs : List V} {us : List Value}, RVL E xs us → us.length = xs.length
  | [], us, h => by simp only [RVL] at h; simp [h]
  | x :: xs, us, h => by
    simp only [RVL] at h
    obtain ⟨u, r, h1, _, h3⟩ := h
    simp [h1, RVL.len h3]
theorem RVL.get : ∀ {xs : List V} {us : List Value} {j : Nat} {x : V}, RVL E xs us → xs[j]? = some x → ∃ u, us[j]? = some u ∧ RV E x u
  | [], us, j, x, h, hd => by simp at hd
  | y :: xs, us, 0, x, h, hd => by
    simp only [RVL] at h
    obtain ⟨u, r, h1, h2, h3⟩ := h
    simp at hd
    subst hd
    exact ⟨u, by simp [h1], h2⟩
  | y :: xs, us, j + 1, x, h, hd => by
    simp only [RVL] at h
    obtain ⟨u, r, h1, h2, h3⟩ := h
    obtain ⟨v, h4, h5⟩ := RVL.get (j := j) h3 (by simpa using hd)
    exact ⟨v, by simpa [h1] using h4, h5⟩
theorem RVL.set : ∀ {xs : List V} {us : List Value} {j : Nat} {x : V} {u : Value}, RVL E xs us → RV E x u → RVL E (xs.set j x) (us.set j u)
  | [], us, j, x, u, h, _ => by simp only [RVL] at h; subst h; simp [RVL]
  | y :: xs, us, 0, x, u, h, hu => by
    simp only [RVL] at h
    obtain ⟨v, r, rfl, h2, h3⟩ := h
    simp only [List.set_cons_zero, RVL]
    exact ⟨u, r, rfl, hu, h3⟩
  | y :: xs, us, j + 1, x, u, h, hu => by
    simp only [RVL] at h
    obtain ⟨v, r, rfl, h2, h3⟩ := h
    simp only [List.set_cons_succ, RVL]
    exact ⟨v, r.set j u, rfl, h2, RVL.set h3 hu⟩
theorem RVL.append : ∀ {xs ys : List V} {us vs : List Value}, RVL E xs us → RVL E ys vs → RVL E (xs ++ ys) (us ++ vs)
  | [], ys, us, vs, h, k => by simp only [RVL] at h; subst h; exact k
  | d :: ds, es, us, vs, h, k => by
    simp only [RVL] at h
    obtain ⟨u, r, rfl, h2, h3⟩ := h
    exact ⟨u, r ++ vs, rfl, h2, RVL.append h3 k⟩
theorem RVL.drop : ∀ {ds : List V} {us : List Value} (n : Nat), RVL E ds us → RVL E (ds.drop n) (us.drop n)
  | ds, us, 0, h => by simpa using h
  | [], us, n + 1, h => by simp only [RVL] at h; subst h; simp [RVL]
  | d :: ds, us, n + 1, h => by
    simp only [RVL] at h
    obtain ⟨u, r, rfl, h2, h3⟩ := h
    simpa using RVL.drop n h3
theorem RVL.take : ∀ {ds : List V} {us : List Value} (n : Nat), RVL E ds us → RVL E (ds.take n) (us.take n)
  | ds, us, 0, h => by simp [RVL]
  | [], us, n + 1, h => by simp only [RVL] at h; subst h; simp [RVL]
  | d :: ds, us, n + 1, h => by
    simp only [RVL] at h
    obtain ⟨u, r, rfl, h2, h3⟩ := h
    simp only [List.take_succ_cons, RVL]
    exact ⟨u, r.take n, rfl, h2, RVL.take n h3⟩
/-- data as values -/
def dV (ds : List D) : List V := ds.map .d
theorem RVL.of_data : ∀ {ds : List D} {us : List Value}, RDL E.F E.w ds us → RVL E (dV ds) us
  | [], us, h => by simp only [RDL] at h; subst h; simp [RVL, dV]
  | d :: ds, us, h => by
    simp only [RDL] at h
    obtain ⟨u, r, rfl, h2, h3⟩ := h
    simp only [dV, List.map_cons, RVL, RV]
    exact ⟨u, r, rfl, h2, RVL.of_data h3⟩
theorem RVL.to_data : ∀ {ds : List D} {us : List Value}, RVL E (dV ds) us → RDL E.F E.w ds us
  | [], us, h => by simp only [dV, List.map_nil, RVL] at h; subst h; simp [RDL]
  | d :: ds, us, h => by
    simp only [dV, List.map_cons, RVL, RV] at h
    obtain ⟨u, r, rfl, h2, h3⟩ := h
    simp only [RDL]
    exact ⟨u, r, rfl, h2, RVL.to_data h3⟩
end
/-- a range over a function: what its record holds of it -/
structure LoopC where
  tms : Array Value
  ps : Array Tmp
  assign : Code
  body : Code
  l : Nat
/-- the own blocks: a variable; the room of an own row (its elements are data); an own row that is written; a map -/
inductive Blk where
  | cells (t : TypeId) (cs : List V)
  | tok (e : TypeId) (sz len : Nat)
  | row (e : TypeId) (sz : Nat) (d0 : List V) (es : List (List V))
  | map (q : KQ) (k : TypeId) (zv : Value) (z0 : V) (es : List (List Int × V))
  | loop (L : LoopC) (st : LoopState) (pe : Option Code)
  | raw (b : Nat) (o : Obj)
def hb : Value → Option Nat
  | .pointer (some a) => some a.block
  | .slice (some a) _ _ => some a.block
  | .map (some b) => some b
  | .func (.yield b) _ _ => some b
  | _ => none
/-- the world in which the call began; what of it may be written; where the arguments' data lie; how many slots -/
structure Base where
  w0 : World
  S0 : Nat → Prop
  F0 : Ft
  N : Nat
  g : Nat → Value
  r : Option Nat
  gd : Nat → Prop
/-- a block of the call's own, of whose cells p are data -/
def okB (B : Base) (E : Env) (b : Nat) (p : Nat → Prop) : Prop := (B.w0.heap.size ≤ b ∨ B.S0 b) ∧ b < E.w.heap.size ∧ ¬ E.F.m b ∧ ∀ o, E.F.c b o → p o
/-- a map's entries -/
def RMp (P : Program) (q : KQ) (k : TypeId) (E : Env) : List MapEntry → List (List Int × V) → Prop
  | [], [] => True
  | e :: ms, (c, x) :: es => (keyC q e.key = some c ∧ fitK q c ∧ RV E x e.val) ∧ RMp P q k E ms es
  | _, _ => False
theorem RMp.mono {P : Program} {q : KQ} {k : TypeId} {E E' : Env} (h : Ext E E') : ∀ {ms : List MapEntry} {es : List (List Int × V)}, RMp P q k E ms es → RMp P q k E' ms es
  | [], [], _ => trivial
  | _ :: _, (_, _) :: _, hm => ⟨⟨hm.1.1, hm.1.2.1, RV.mono h _ _ hm.1.2.2⟩, RMp.mono h hm.2⟩
  | [], _ :: _, hm => by simp only [RMp] at hm
  | _ :: _, [], hm => by simp only [RMp] at hm
/-- the entries' stamps -/
def BornOk (ms : Array MapEntry) (clock : Nat) : Prop := (ms.toList.map (·.born)).Nodup ∧ ∀ e ∈ ms.toList, e.born < clock
def RBk (P : Program) (B : Base) (E : Env) (n : Nat) : Blk → Prop
  | .cells t cs => ∃ b us, E.η n = some (.pointer (some ⟨b, 0, none⟩)) ∧ E.w.heap[b]? = some (.cells us.toArray t (0, 0)) ∧ RVL E cs us ∧ (∀ u ∈ us, u.oneCell' = true) ∧ okB B E b (fun _ => False)
  | .tok e sz len => ∃ v us, E.η n = some v ∧ E.w.ownsRow 0 e sz v len us ∧ ∀ b, hb v = some b → okB B E b (fun o => o < len * sz)
  | .row e sz _ es => ∃ v us, E.η n = some v ∧ E.w.ownsRow 0 e sz v es.length us ∧ RVL E es.flatten us ∧ (∀ x ∈ es, x.length = sz) ∧ (∀ u ∈ us, u.oneCell' = true) ∧ es.length ≤ 140737488351232 ∧ ∀ b, hb v = some b → okB B E b (fun _ => False)
  | .map q k zv z0 es => ∃ b ms clock, E.η n = some (.map (some b)) ∧ E.w.heap[b]? = some (.map ms clock) ∧ RMp P q k E ms.toList es ∧ (es.map (·.1)).Nodup ∧ (RV E z0 zv ∧ BornOk ms clock) ∧ okB B E b (fun _ => False)
  | .loop L st pe => ∃ b rec, E.η n = some (.func (.yield b) #[] #[]) ∧ E.w.heap[b]? = some (.loop rec) ∧ (rec.state = st ∧ rec.pending = pe ∧ rec.tmps = L.tms ∧ rec.params = L.ps ∧ rec.assign = L.assign ∧ rec.body = L.body ∧ b = L.l) ∧ okB B E b (fun _ => False)
  | .raw b o => ∃ v, E.η n = some v ∧ hb v = some b ∧ E.w.heap[b]? = some o ∧ o ≠ .deferred (some []) ∧ okB B E b (fun _ => False)
def lkT : List (Nat × V) → Nat → V
  | [], _ => .any
  | (u, v) :: l, t => if t = u then v else lkT l t
def lkB : List (Nat × Blk) → Nat → Option Blk
  | [], _ => none
  | (u, v) :: l, t => if t = u then some v else lkB l t
/-- world and own blocks -/
structure GamS (P : Program) (B : Base) (σ : Nat → Option Blk) (fr : Nat → Prop) (E : Env) : Prop where
  os : E.w.os = B.w0.os
  tape : E.w.tape = B.w0.tape
  output : E.w.output = B.w0.output
  size : B.w0.heap.size ≤ E.w.heap.size
  old : ∀ b, b < B.w0.heap.size → ¬ B.S0 b → E.w.heap[b]? = B.w0.heap[b]?
  F0 : B.F0.le E.F
  Fc : ∀ b o, E.F.c b o → (B.F0.c b o ∨ B.w0.heap.size ≤ b ∨ B.S0 b) ∧ b < E.w.heap.size
  Fm : ∀ b, E.F.m b → (B.F0.m b ∨ B.w0.heap.size ≤ b ∨ B.S0 b) ∧ b < E.w.heap.size
  st : ∀ n x, σ n = some x → RBk P B E n x
  dist : ∀ n m x y b v u, n ≠ m → σ n = some x → σ m = some y → E.η n = some v → E.η m = some u → hb v = some b → hb u ≠ some b
  fresh : ∀ n, fr n → E.η n = none
  dp : ∀ D, E.dp D → E.w.heap[D]? = some (.deferred (some [])) ∧ (B.w0.heap.size ≤ D ∨ B.S0 D) ∧ ¬ E.F.m D ∧ ∀ o, ¬ E.F.c D o
/-- a slot; those behind the frame's are of the frames that called -/
def vOf (B : Base) (a : Act) (t : Nat) : Value := if t < B.N then a.tmps.getD t undef else B.g (t - B.N)
def mark (D : Nat) : Deferred := { target := .collected D, args := #[] }
/-- the slots -/
structure GamT (B : Base) (tm : Nat → V) (E : Env) (a : Act) : Prop where
  tm : ∀ t, RV E (tm t) (vOf B a t)
  defers : ∃ ds : List Nat, a.defers = ds.map mark ∧ ds.Nodup ∧ (∀ D ∈ ds, E.dp D ∧ ¬ B.gd D) ∧ ∀ D, B.gd D → E.dp D
  size : a.tmps.size = B.N
structure St where
  tm : List (Nat × V)
  st : List (Nat × Blk)
  nx : Nat
def Gam (P : Program) (B : Base) (s : St) (E : Env) (a : Act) : Prop := GamS P B (lkB s.st) (fun n => s.nx ≤ n) E ∧ GamT B (lkT s.tm) E a
end Go.Proofs.Ytfndjciojljkfaa

namespace Go.Proofs.Ytfndjciojljkfaa
set_option linter.unusedSimpArgs false
set_option linter.unusedVariables false
open Go.RowKit
/-- what is handed in and out: data of one cell, or a struct of data -/
inductive A where
  | one (x : D)
  | agg (xs : List D)
inductive Ret where
  | r1 (a : A)
  | rt (l : List A)
def RA (F : Ft) (w : World) : A → Value → Prop
  | .one x, v => RD F w x v
  | .agg xs, v => ∃ us : List Value, v = .agg us.toArray ∧ RDL F w xs us ∧ ∀ u ∈ us, u.oneCell' = true
def RAL (F : Ft) (w : World) : List A → List Value → Prop
  | [], us => us = []
  | x :: xs, us => ∃ u r, us = u :: r ∧ RA F w x u ∧ RAL F w xs r
def RRet (F : Ft) (w : World) : Ret → Value → Prop
  | .r1 a, v => RA F w a v
  | .rt l, v => ∃ us : List Value, v = .tuple us.toArray ∧ RAL F w l us
def Ft.lt (F : Ft) (w : World) : Prop := (∀ b o, F.c b o → b < w.heap.size) ∧ (∀ b, F.m b → b < w.heap.size)
/-- new data lie in new memory -/
structure FtNew (F F' : Ft) (w w' : World) : Prop where
  le : F.le F'
  c : ∀ b o, F'.c b o → F.c b o ∨ (w.heap.size ≤ b ∧ b < w'.heap.size)
  m : ∀ b, F'.m b → F.m b ∨ (w.heap.size ≤ b ∧ b < w'.heap.size)
/-- the contract of a function over data: it makes memory alone -/
def Spec (P : Program) (f : FuncId) (args : List A) (r : Ret) : Prop :=
  ∀ (F : Ft) (w : World) (us : List Value), F.lt w → RAL F w args us →
    Calls P f us.toArray w fun e w' => ∃ v F', e = .returned v ∧ Below w.heap.size w w' ∧ FtNew F F' w w' ∧ RRet F' w' r v
abbrev aI (n : Int) : A := .one (.c (.int .i64 n))
abbrev aB (b : Bool) : A := .one (.c (.bool b))
abbrev vI (n : Int) : V := .d (.c (.int .i64 n))
abbrev vB (b : Bool) : V := .d (.c (.bool b))
def ofA : A → V
  | .one x => .d x
  | .agg xs => .agg (dV xs)
def ofRet : Ret → V
  | .r1 a => ofA a
  | .rt l => .tup (l.map ofA)
def toD : V → Option D
  | .d x => some x
  | .ow _ sz d0 es => some (.sl sz d0 es)
  | _ => none
def toDs : List V → Option (List D)
  | [] => some []
  | x :: xs => match toD x, toDs xs with
    | some d, some ds => some (d :: ds)
    | _, _ => none
def toA : V → Option A
  | .agg cs => (toDs cs).map .agg
  | x => (toD x).map .one
def toAs : List V → Option (List A)
  | [] => some []
  | x :: xs => match toA x, toAs xs with
    | some d, some ds => some (d :: ds)
    | _, _ => none
theorem toDs_dV (xs : List D) : toDs (dV xs) = some xs := by
  induction xs with
  | nil => rfl
  | cons x xs ih => simp only [dV, List.map_cons, toDs, toD] at ih ⊢; rw [ih]
theorem toA_dV (xs : List D) : toA (.agg (dV xs)) = some (.agg xs) := by simp [toA, toDs_dV]
section
variable {E : Env} {F : Ft} {w : World}
theorem toD_ok {x : V} {d : D} {v : Value} (h : toD x = some d) (hv : RV E x v) : RD E.F E.w d v := by
  cases x <;> simp [toD] at h
  · subst h; simpa only [RV] using hv
  · subst h; simp only [RV] at hv; exact hv.2
theorem toDs_ok : ∀ {xs : List V} {ds : List D} {us : List Value}, toDs xs = some ds → RVL E xs us → RDL E.F E.w ds us
  | [], ds, us, h, hv => by simp [toDs] at h; subst h; simp only [RVL] at hv; simp [RDL, hv]
  | x :: xs, ds, us, h, hv => by
    simp only [toDs] at h
    split at h
    · rename_i d ds' h1 h2
      cases h
      simp only [RVL] at hv
      obtain ⟨u, r, rfl, h3, h4⟩ := hv
      simp only [RDL]
      exact ⟨u, r, rfl, toD_ok h1 h3, toDs_ok h2 h4⟩
    · cases h
theorem toA_ok {x : V} {a : A} {v : Value} (h : toA x = some a) (hv : RV E x v) : RA E.F E.w a v := by
  have one : ∀ (d : D), toD x = some d → a = .one d → RA E.F E.w a v := fun d hd ha => by subst ha; exact toD_ok hd hv
  cases x <;> simp [toA] at h <;> try (obtain ⟨d, hd, ha⟩ := h; exact one d hd ha.symm)
  · obtain ⟨ds, hd, rfl⟩ := h
    simp only [RV] at hv
    obtain ⟨us, h1, h2, h3⟩ := hv
    exact ⟨us, h1, toDs_ok hd h2, h3⟩
theorem toAs_ok : ∀ {xs : List V} {ds : List A} {us : List Value}, toAs xs = some ds → RVL E xs us → RAL E.F E.w ds us
  | [], ds, us, h, hv => by simp [toAs] at h; subst h; simp only [RVL] at hv; simp [RAL, hv]
  | x :: xs, ds, us, h, hv => by
    simp only [toAs] at h
    split at h
    · rename_i d ds' h1 h2
      cases h
      simp only [RVL] at hv
      obtain ⟨u, r, rfl, h3, h4⟩ := hv
      simp only [RAL]
      exact ⟨u, r, rfl, toA_ok h1 h3, toAs_ok h2 h4⟩
    · cases h
theorem ofA_ok {a : A} {v : Value} (h : RA E.F E.w a v) : RV E (ofA a) v := by
  cases a with
  | one x => simp only [ofA, RV]; exact h
  | agg xs =>
    obtain ⟨us, h1, h2, h3⟩ := h
    simp only [ofA, RV]
    exact ⟨us, h1, RVL.of_data h2, h3⟩
theorem ofAs_ok : ∀ {l : List A} {us : List Value}, RAL E.F E.w l us → RVL E (l.map ofA) us
  | [], us, h => by simp only [RAL] at h; simp [RVL, h]
  | x :: xs, us, h => by
    simp only [RAL] at h
    obtain ⟨u, r, rfl, h3, h4⟩ := h
    simp only [List.map_cons, RVL]
    exact ⟨u, r, rfl, ofA_ok h3, ofAs_ok h4⟩
theorem ofRet_ok {r : Ret} {v : Value} (h : RRet E.F E.w r v) : RV E (ofRet r) v := by
  cases r with
  | r1 a => exact ofA_ok h
  | rt l =>
    obtain ⟨us, h1, h2⟩ := h
    simp only [ofRet, RV]
    exact ⟨us, h1, ofAs_ok h2⟩
end
/-- a constant -/
def ofC : Value → V
  | .agg cs => .agg (dV (cs.toList.map .c))
  | v => .d (.c v)
/-- the cells of a value -/
def vcells : V → Option (List V)
  | .agg cs => some cs
  | .d (.c u) => if u.oneCell' = true then some [.d (.c u)] else none
  | .d (.sl sz d0 es) => some [.d (.sl sz d0 es)]
  | .d (.ag ds) => some (dV ds)
  | .d (.pt ds) => some [.d (.pt ds)]
  | .d (.x R) => some [.d (.x R)]
  | .d (.mp q k zv z0 cs es) => some [.d (.mp q k zv z0 cs es)]
  | .ptr n off => some [.ptr n off]
  | .elt sz d0 es i off => some [.elt sz d0 es i off]
  | .ow n sz d0 es => some [.ow n sz d0 es]
  | .mo n => some [.mo n]
  | .oel n sz i off => some [.oel n sz i off]
  | .mp n => some [.mp n]
  | .fn f cap => some [.fn f cap]
  | _ => none
theorem cells_one {v : Value} (h : v.oneCell' = true) : v.cells = #[v] := by cases v <;> simp_all [Value.oneCell', Value.cells]
theorem RVL.single {E : Env} {x : V} {v : Value} (h : RV E x v) : RVL E [x] [v] := by
  simp only [RVL]; exact ⟨v, [], rfl, h, rfl⟩
theorem RD.one {F : Ft} {w : World} {sz : Nat} {d0 : List D} {es : List (List D)} {v : Value} (h : RD F w (.sl sz d0 es) v) : v.oneCell' = true := by
  simp only [RD] at h
  obtain ⟨a, cap, rfl, _⟩ := h
  rfl
theorem vcells_ok {E : Env} {x : V} {cs : List V} {v : Value} (h : vcells x = some cs) (hv : RV E x v) : ∃ us : List Value, v.cells = us.toArray ∧ RVL E cs us ∧ ∀ u ∈ us, u.oneCell' = true := by
  have one : v.oneCell' = true → cs = [x] → ∃ us : List Value, v.cells = us.toArray ∧ RVL E cs us ∧ ∀ u ∈ us, u.oneCell' = true := fun h1 h2 => by
    subst h2; exact ⟨[v], cells_one h1, RVL.single hv, by simpa using h1⟩
  cases x with
  | any => simp [vcells] at h
  | d x =>
    cases x with
    | c u =>
      simp only [vcells] at h
      split at h
      · rename_i h1
        simp only [RV, RD] at hv
        subst hv
        exact one h1 (by injection h with h; exact h.symm)
      · cases h
    | sl sz d0 es => simp only [RV] at hv; exact one (RD.one hv) (by simpa [vcells] using h.symm)
    | mp q k zv z0 ks es =>
      simp only [RV, RD] at hv
      exact one (by rcases hv.2.2 with h1 | ⟨b, ms, clock, h1, _⟩; rw [h1.1]; rfl; rw [h1]; rfl) (by simpa [vcells] using h.symm)
    | ag ds =>
      simp only [RV, RD] at hv
      obtain ⟨us, rfl, h2, h3⟩ := hv
      simp [vcells] at h
      subst h
      exact ⟨us, rfl, RVL.of_data h2, h3⟩
    | pt ds =>
      simp only [RV, RD] at hv
      obtain ⟨b, o, us, rfl, _⟩ := hv
      exact one rfl (by simpa [vcells] using h.symm)
    | x R =>
      simp only [RV, RD] at hv
      exact one hv.1 (by simpa [vcells] using h.symm)
  | ptr n off => simp only [RV] at hv; obtain ⟨b, _, rfl⟩ := hv; exact one rfl (by simpa [vcells] using h.symm)
  | elt sz d0 es i off => simp only [RV] at hv; obtain ⟨b, o, rfl, _⟩ := hv; exact one rfl (by simpa [vcells] using h.symm)
  | ow n sz d0 es => simp only [RV] at hv; exact one (RD.one hv.2) (by simpa [vcells] using h.symm)
  | mo n => simp only [RV] at hv; obtain ⟨_, a, l, c, rfl⟩ := hv; exact one rfl (by simpa [vcells] using h.symm)
  | oel n sz i off => simp only [RV] at hv; obtain ⟨b, l, c, _, rfl⟩ := hv; exact one rfl (by simpa [vcells] using h.symm)
  | mp n => simp only [RV] at hv; obtain ⟨_, b, rfl⟩ := hv; exact one rfl (by simpa [vcells] using h.symm)
  | agg cs' =>
    simp only [RV] at hv
    obtain ⟨us, rfl, h2, h3⟩ := hv
    simp [vcells] at h
    subst h
    exact ⟨us, rfl, h2, h3⟩
  | yl n => simp [vcells] at h
  | tup vs => simp [vcells] at h
  | fn f cap => simp only [RV] at hv; obtain ⟨us, rfl, _⟩ := hv; exact one rfl (by simpa [vcells] using h.symm)
  | cond g x => simp [vcells] at h
/-- what is known of a type -/
inductive TyK where
  | int (k : IntKind)
  | bool
  | str
  | slice (e : Nat)
  | struct (fs : List (Nat × Nat))
  | arr (n e : Nat)
  | map (k e : Nat)
  | oth
structure TyI where
  kd : TyK
  sz : Nat
  z : Value
  by_ : Nat
def TyK.agg : TyK → Bool
  | .struct _ | .arr _ _ => true
  | _ => false
def kdOk (P : Program) (t : Nat) : TyK → Prop
  | .int k => P.underlying t = some (.int k)
  | .bool => P.underlying t = some .bool
  | .str => P.underlying t = some .string
  | .slice e => P.underlying t = some (.slice e)
  | .struct fs => (match P.underlying t with | some (.struct fields) => some (fields.toList.map fun f => (f.offset, (P.info? f.type).map (·.size))) | _ => none) = some (fs.map fun x => (x.1, some x.2))
  | .arr n e => P.underlying t = some (.array n e)
  | .map k e => P.underlying t = some (.map k e)
  | .oth => (P.underlying t).map (·.isRow) = some false
def TyOk (P : Program) (t : Nat) (i : TyI) : Prop := (P.info? t).map (fun j => (j.size, j.zero, j.bytes)) = some (i.sz, some i.z, i.by_) ∧ kdOk P t i.kd
abbrev Tab := List (Nat × TyI)
def TabOk (P : Program) : Tab → Prop
  | [] => True
  | (t, i) :: l => TyOk P t i ∧ TabOk P l
def ty : Tab → Nat → Option TyI
  | [], _ => none
  | (u, i) :: l, t => if t = u then some i else ty l t
theorem ty_ok {P : Program} : ∀ {T : Tab} {t : Nat} {i : TyI}, TabOk P T → ty T t = some i → TyOk P t i
  | [], t, i, _, h => by cases h
  | (u, j) :: l, t, i, hT, h => by
    simp only [ty] at h
    split at h
    · rename_i e; cases h; subst e; exact hT.1
    · exact ty_ok hT.2 h
section
variable {P : Program} {t : Nat} {i : TyI}
theorem TyOk.row (h : TyOk P t i) : ∃ d, P.underlying t = some d ∧ d.isRow = i.kd.agg := by
  obtain ⟨_, h⟩ := h
  cases hk : i.kd <;> rw [hk] at h <;> simp only [kdOk] at h
  case struct fs =>
    split at h
    · rename_i fields hu; exact ⟨_, hu, rfl⟩
    · cases h
  case oth =>
    cases hu : P.underlying t with
    | none => rw [hu] at h; cases h
    | some d => rw [hu] at h; exact ⟨d, rfl, by simpa [TyK.agg] using h⟩
  all_goals exact ⟨_, h, rfl⟩
theorem TyOk.size (h : TyOk P t i) : (P.info? t).map (·.size) = some i.sz := by
  have := h.1
  cases hi : P.info? t with
  | none => rw [hi] at this; cases this
  | some j => rw [hi] at this; simp at this ⊢; exact this.1
theorem TyOk.sizeOf (h : TyOk P t i) (w : World) : (sizeOf t).run P w = .ok i.sz w := by
  have := h.size
  cases hi : P.info? t with
  | none => rw [hi] at this; cases this
  | some j => rw [hi] at this; simp at this; simp [Go.sizeOf, typeInfo, hi, this]
theorem TyOk.zero (h : TyOk P t i) (w : World) : (zeroValue t).run P w = .ok i.z w := by
  have := h.1
  cases hi : P.info? t with
  | none => rw [hi] at this; cases this
  | some j => rw [hi] at this; simp at this; simp [zeroValue, typeInfo, hi, this]
theorem TyOk.isAgg (h : TyOk P t i) (w : World) : (isAgg t).run P w = .ok i.kd.agg w := by
  obtain ⟨d, h1, h2⟩ := h.row
  unfold Go.isAgg
  rw [Sem.run_bind, run_underlying h1 w]
  cases d <;> simp_all
end
end Go.Proofs.Ytfndjciojljkfaa

namespace Go.Proofs.Ytfndjciojljkfaa
set_option linter.unusedSimpArgs false
set_option linter.unusedVariables false
open Go.RowKit
/-- what an operation hands on -/
def Upon (P : Program) (R : Value → World → Prop) : Result Next → Prop
  | .ok (.value v) w' => R v w'
  | .ok .skip w' => R undef w'
  | .ok (.enter f args) w' => Calls P f args w' fun e w'' => ∃ v, e = .returned v ∧ R v w''
  | _ => False
theorem Upon.mono {P : Program} {R R' : Value → World → Prop} {r : Result Next} (h : Upon P R r) (hr : ∀ v w, R v w → R' v w) : Upon P R' r := by
  cases r with
  | ok n w =>
    cases n <;> simp only [Upon] at h ⊢
    · exact hr _ _ h
    · exact hr _ _ h
    · exact h.mono fun e w'' ⟨v, h1, h2⟩ => ⟨v, h1, hr _ _ h2⟩
  | halt x w => simp only [Upon] at h
theorem Upon.wp {P : Program} {o : Oper} {a : Act} {w : World} {K : Act → World → Prop} {Q : Exit → Act → World → Prop} {R : Value → World → Prop} (h : Upon P R ((execOp a.eval o).run P w)) (hk : ∀ v w', R v w' → K (a.put o.dst v) w') : o.wp P a w K Q := by
  unfold Oper.wp
  generalize (execOp a.eval o).run P w = r at h
  cases r with
  | ok n w' =>
    cases n <;> simp only [Upon] at h <;> simp only [Oper.upon]
    · exact hk _ _ h
    · exact hk _ _ h
    · exact h.mono fun e w'' ⟨v, h1, h2⟩ => by subst h1; exact hk _ _ h2
  | halt x w => simp only [Upon] at h
/-- within a round of a range over a function, or outside -/
def fen (r : Option Nat) : Fence := { Fence.wide with round := r }
theorem Upon.wpIn {P : Program} {r : Option Nat} {o : Oper} {a : Act} {w : World} {K : Act → World → Prop} {Q : Exit → Act → World → Prop} {R : Value → World → Prop} (h : Upon P R ((execOp a.eval o).run P w)) (hk : ∀ v w', R v w' → K (a.put o.dst v) w') : o.wpIn (fen r) 0 P a w K Q := by
  refine ⟨fun _ _ => trivial, ?_⟩
  have he : (Oper.semAt (fen r).round a.eval o).run P w = (execOp a.eval o).run P w := by
    show (Oper.semAt r a.eval o).run P w = _
    cases r with
    | none => rfl
    | some l =>
      unfold Oper.semAt
      cases ho : o.op <;> first | rfl | skip
      rename_i c
      exfalso
      simp only [execOp, ho] at h
      generalize hr : (resolve a.eval c o.type).run P w = r1 at h
      simp only [Sem.run_bind, hr] at h
      cases r1 <;> simp [Upon, Result.andThen] at h
  rw [he]
  generalize (execOp a.eval o).run P w = r at h
  cases r with
  | ok n w' =>
    cases n <;> simp only [Upon] at h <;> simp only [Oper.uponIn]
    · exact hk _ _ h
    · exact hk _ _ h
    · refine ⟨fun h => (by cases h), ?_⟩
      show CallsIn Fence.wide 0 P _ _ _ _
      refine callsIn_wide.2 (h.mono ?_)
      rintro e w'' ⟨v, h1, h2⟩
      subst h1
      exact hk _ _ h2
  | halt x w => simp only [Upon] at h
/-- memory has been made, perhaps a block with the name nm -/
structure HStep (E E' : Env) (nm : Nat) : Prop where
  by_ : Below E.w.heap.size E.w E'.w
  η : ∀ n, n ≠ nm → E'.η n = E.η n
  F : FtNew E.F E'.F E.w E'.w
  dp : E'.dp = E.dp
theorem HStep.refl (E : Env) (nm : Nat) : HStep E E nm := ⟨Below.refl _ _, fun _ _ => rfl, ⟨Ft.le_refl _, fun _ _ h => .inl h, fun _ h => .inl h⟩, rfl⟩
theorem HStep.ext {E E' : Env} {nm : Nat} (h : HStep E E' nm) (hl : E.F.lt E.w) (hn : E.η nm = none) : Ext E E' :=
  ⟨fun n v hv => by rw [h.η n (fun e => by subst e; rw [hn] at hv; cases hv)]; exact hv, h.F.le, .of_blocks (fun b o hb => h.by_.block b (hl.1 b o hb)) (fun b hb => h.by_.block b (hl.2 b hb))⟩
def NewB (P : Program) (B : Base) (E E' : Env) (nm : Nat) : Option Blk → Prop
  | none => E'.η nm = E.η nm
  | some x => ∃ v, E'.η nm = some v ∧ (∀ b, hb v = some b → E.w.heap.size ≤ b) ∧ RBk P B E' nm x
/-- the operation hands on v, and makes the block x -/
def HD (P : Program) (o : Oper) (e : Operand → V) (st : Nat → Option Blk) (nm : Nat) (v : V) (x : Option Blk) : Prop :=
  ∀ (B : Base) (E : Env) (ρ : Operand → Value), (∀ y ∈ o.op.operands, RV E (e y) (ρ y)) → (∀ f, ρ (.func f) = .func (.func f) #[] #[]) → (∀ n b, st n = some b → RBk P B E n b) → E.F.lt E.w → B.w0.heap.size ≤ E.w.heap.size → E.η nm = none →
    Upon P (fun u w' => ∃ E', E'.w = w' ∧ HStep E E' nm ∧ RV E' v u ∧ NewB P B E E' nm x) ((execOp ρ o).run P E.w)
abbrev HK := V → Option Blk → Prop
/-- what is read of some cells on; G: what may be taken for granted (the operation runs) -/
def ldK (G : Prop) (i : TyI) (cs : List V) (K : HK) : Prop := match i.kd.agg with
  | true => (G → i.sz ≤ cs.length) ∧ K (.agg (cs.take i.sz)) none
  | false => match cs.head? with
    | some c => K c none
    | none => False
def iop (G : Prop) (op : BinOp) (k : IntKind) (x y : Int) (K : V → Prop) : Prop := match op with
  | .add => K (.d (.c (.int k (k.wrap (x + y)))))
  | .sub => K (.d (.c (.int k (k.wrap (x - y)))))
  | .mul => K (.d (.c (.int k (k.wrap (x * y)))))
  | .quo => (G → y ≠ 0) ∧ K (.d (.c (.int k (k.wrap (x.tdiv y)))))
  | .rem => (G → y ≠ 0) ∧ K (.d (.c (.int k (x.tmod y))))
  | .eql => K (vB (x == y))
  | .neq => K (vB (x != y))
  | .lss => K (vB (decide (x < y)))
  | .leq => K (vB (decide (x ≤ y)))
  | .gtr => K (vB (decide (x > y)))
  | .geq => K (vB (decide (x ≥ y)))
  | .and => K (.d (.c (.int k (k.wrap ((BitVec.ofInt k.bits x &&& BitVec.ofInt k.bits y).toNat : Nat)))))
  | .or => K (.d (.c (.int k (k.wrap ((BitVec.ofInt k.bits x ||| BitVec.ofInt k.bits y).toNat : Nat)))))
  | _ => False
/-- .. of which shifts take a number of another kind -/
def iop2 (G : Prop) (op : BinOp) (k k' : IntKind) (x y : Int) (K : V → Prop) : Prop := match op with
  | .shl => (G → 0 ≤ y) ∧ K (.d (.c (.int k (k.wrap (x * 2 ^ min y.toNat k.bits)))))
  | .shr => (G → 0 ≤ y) ∧ K (.d (.c (.int k (x.fdiv (2 ^ min y.toNat k.bits)))))
  | op => k = k' ∧ iop G op k x y K
/-- a slice's elements -/
def slOf : V → Option (Nat × List D × List (List D))
  | .d (.sl sz d0 es) => some (sz, d0, es)
  | .ow _ sz d0 es => some (sz, d0, es)
  | _ => none
/-- an own row, a nil slice, data: what an index is taken of -/
def splice (cells : List V) (off : Nat) (cs : List V) : List V := cells.take off ++ cs ++ cells.drop (off + cs.length)
def fillV (place : Nat → Option (Nat × Nat)) (cells : List V) : List (Nat × V) → Option (List V)
  | [] => some cells
  | (i, x) :: rest => match place i, vcells x with
    | some (off, size), some cs => if cs.length = size ∧ off + size ≤ cells.length then fillV place (splice cells off cs) rest else none
    | _, _ => none
def zcells (v : Value) : List V := v.cells.toList.map fun c => .d (.c c)
def allOne (v : Value) : Bool := v.cells.toList.all fun u => u.oneCell'
def int2 (op : BinOp) (G : Prop) (K : V → Prop) : V → V → Prop
  | .d (.c (.int k a)), .d (.c (.int k' b)) => k = k' ∧ iop G op k a b K
  | _, _ => False
def ixK (G : Prop) (st : Nat → Option Blk) (isz : Nat) (K : HK) : V → V → Prop
  | .mo n, .d (.c (.int _ j)) => match st n with
    | some (.row _ sz _ es) => sz = isz ∧ (G → 0 ≤ j ∧ j < es.length) ∧ K (.oel n sz j.toNat 0) none
    | _ => False
  | .d (.sl sz d0 es), .d (.c (.int _ j)) => sz = isz ∧ (G → 0 ≤ j ∧ j < es.length) ∧ K (.elt sz d0 es j.toNat 0) none
  | .ow _ sz d0 es, .d (.c (.int _ j)) => sz = isz ∧ (G → 0 ≤ j ∧ j < es.length) ∧ K (.elt sz d0 es j.toNat 0) none
  | _, _ => False
/-- the length of a slice -/
def lenK (st : Nat → Option Blk) (K : HK) : V → Prop
  | .d (.sl _ _ es) => K (vI es.length) none
  | .ow _ _ _ es => K (vI es.length) none
  | .d (.c (.slice none 0 0)) => K (vI 0) none
  | .mo n => match st n with
    | some (.row _ _ _ es) => K (vI es.length) none
    | _ => False
  | _ => False
def lenM (st : Nat → Option Blk) (K : HK) : V → Prop
  | .mp n => match st n with
    | some (.map _ _ _ _ es) => K (vI es.length) none
    | _ => False
  | .d (.mp _ _ _ _ cs _) => K (vI cs.length) none
  | _ => False
def ldV (G : Prop) (st : Nat → Option Blk) (i : TyI) (K : HK) : V → Prop
  | .ptr n off => match st n with
    | some (.cells _ cs) => ldK G i (cs.drop off) K
    | _ => False
  | .elt _ d0 es j off => (G → j < es.length) ∧ ldK G i ((dV (es.getD j d0)).drop off) K
  | .oel n sz j off => match st n with
    | some (.row _ sz' d0 es) => sz = sz' ∧ (G → j < es.length) ∧ ldK G i ((es.getD j d0).drop off) K
    | _ => False
  | .d (.pt ds) => ldK G i (dV ds) K
  | _ => False
def addOff (d : Nat) (K : HK) : V → Prop
  | .ptr n off => K (.ptr n (off + d)) none
  | .elt sz d0 es j off => K (.elt sz d0 es j (off + d)) none
  | .oel n sz j off => K (.oel n sz j (off + d)) none
  | .d (.pt ds) => K (.d (.pt (ds.drop d))) none
  | _ => False
def exK (i : Nat) (K : HK) : V → Prop
  | .tup vs => match vs[i]? with
    | some v => K v none
    | none => False
  | _ => False
def notK (K : HK) : V → Prop
  | .d (.c (.bool b)) => K (vB (!b)) none
  | _ => False
def pickV (c a b : Bool) : Bool := (c && a) || (!c && b)
/-- c ? a : b, of bools -/
def pickK (G : Prop) (K : HK) : V → V → V → Prop
  | .d (.c (.bool c)), .d (.c (.bool a)), .d (.c (.bool b)) => K (vB (pickV c a b)) none
  | .d (.c (.bool c)), .cond g (.d (.c (.bool a))), .d (.c (.bool b)) => (G → c = true → g = true) ∧ K (vB (pickV c a b)) none
  | .d (.c (.bool c)), .d (.c (.bool a)), .cond g (.d (.c (.bool b))) => (G → c = false → g = true) ∧ K (vB (pickV c a b)) none
  | _, _, _ => False
def tyInt : Tab → Nat → Option IntKind := fun T t => match ty T t with
  | some ⟨.int k, _, _, _⟩ => some k
  | _ => none
def cvK (k : IntKind) (K : HK) : V → Prop
  | .d (.c (.int _ n)) => K (.d (.c (.int k (k.wrap n)))) none
  | _ => False
def mmK (K : Int → Int → V) (K' : HK) : V → V → Prop
  | .d (.c (.int k a)), .d (.c (.int k' b)) => k = .i64 ∧ k' = .i64 ∧ K' (K a b) none
  | _, _ => False
/-- a token that keeps simp out of K -/
structure Tok (K : HK) : Type where
/-- a function that returns a new row of its own -/
def SpecO (P : Program) (f : FuncId) (asA : List A) (el sz : Nat) (d0 : List D) (es : List (List D)) : Prop :=
  ∀ (F : Ft) (w : World) (us : List Value), F.lt w → RAL F w asA us →
    Calls P f us.toArray w fun e w' => ∃ v xs, e = .returned v ∧ Below w.heap.size w w' ∧ w'.ownsRow 0 el sz v es.length xs ∧ RDL F w' es.flatten xs ∧ (∀ u ∈ xs, u.oneCell' = true) ∧ (∀ x ∈ es, x.length = sz) ∧ es.length ≤ 140737488351232 ∧ ∀ b, hb v = some b → w.heap.size ≤ b
/-- functions as data, by their contracts -/
def FnR (P : Program) (φ : List A → Ret → Prop) : Ft → World → Value → Prop := fun F w v => ∃ f cap, v = .func (.func f) #[] cap ∧ (P.funcs[f]?).any (fun fn => fn.name != "runtime.NumGoroutine" && fn.body.isSome) = true ∧
  ∀ G w' asA r, F.le G → Kp F w w' → G.lt w' → φ asA r → ∀ us, RAL G w' asA us → Calls P f (us.toArray ++ cap) w' fun e w'' => ∃ v F', e = .returned v ∧ Below w'.heap.size w' w'' ∧ FtNew G F' w' w'' ∧ RRet F' w'' r v
theorem FnR.stab {P : Program} {φ : List A → Ret → Prop} : StabX (FnR P φ) := fun hl hk ⟨f, cap, h1, h2, h3⟩ => ⟨f, cap, h1, h2, fun G w' asA r hG hK hlt hφ us hus => h3 G w' asA r (Ft.le_trans hl hG) (hk.trans (hK.le hl)) hlt hφ us hus⟩
/-- a function from x to a truth value -/
def FnD {α : Type} (enc : α → A) (p : α → Bool) : List A → Ret → Prop := fun asA r => ∃ x, asA = [enc x] ∧ r = .r1 (aB (p x))
mutual
/-- what own blocks' values are as data -/
inductive Fz (P : Program) (st : Nat → Option Blk) : V → D → Prop
  | d {v : V} {x : D} : toD v = some x → Fz P st v x
  | pt {n t : Nat} {cs : List V} {ds : List D} : st n = some (.cells t cs) → FzL P st cs ds → Fz P st (.ptr n 0) (.pt ds)
  | row {n el sz : Nat} {d0 : List V} {dd : List D} {es : List (List V)} {es' : List (List D)} : st n = some (.row el sz d0 es) → FzLL P st es es' → Fz P st (.mo n) (.sl sz dd es')
  | mp {n : Nat} {q : KQ} {k : TypeId} {zv : Value} {z0 : V} {es : List (List Int × V)} {z : D} {cs : List (List Int)} {ds : List D} : st n = some (.map q k zv z0 es) → cs = es.map (·.1) → Fz P st z0 z → FzL P st (es.map (·.2)) ds → Fz P st (.mp n) (.mp q k zv z cs ds)
  | ag {cs : List V} {ds : List D} : FzL P st cs ds → Fz P st (.agg cs) (.ag ds)
  | fn {f : FuncId} {cap : List V} {capA : List A} {φ : List A → Ret → Prop} : FzA P st cap capA → (P.funcs[f]?).any (fun fn => fn.name != "runtime.NumGoroutine" && fn.body.isSome) = true → (∀ asA r, φ asA r → Spec P f (asA ++ capA) r) → Fz P st (.fn f cap) (.x (FnR P φ))
  | fc {f : FuncId} {φ : List A → Ret → Prop} : (P.funcs[f]?).any (fun fn => fn.name != "runtime.NumGoroutine" && fn.body.isSome) = true → (∀ asA r, φ asA r → Spec P f asA r) → Fz P st (.d (.c (.func (.func f) #[] #[]))) (.x (FnR P φ))
inductive FzL (P : Program) (st : Nat → Option Blk) : List V → List D → Prop
  | nil : FzL P st [] []
  | cons {v : V} {d : D} {vs : List V} {ds : List D} : Fz P st v d → FzL P st vs ds → FzL P st (v :: vs) (d :: ds)
inductive FzLL (P : Program) (st : Nat → Option Blk) : List (List V) → List (List D) → Prop
  | nil : FzLL P st [] []
  | cons {v : List V} {d : List D} {vs : List (List V)} {ds : List (List D)} : FzL P st v d → FzLL P st vs ds → FzLL P st (v :: vs) (d :: ds)
inductive FzA (P : Program) (st : Nat → Option Blk) : List V → List A → Prop
  | nil : FzA P st [] []
  | one {v : V} {d : D} {vs : List V} {asA : List A} : Fz P st v d → FzA P st vs asA → FzA P st (v :: vs) (.one d :: asA)
  | agg {cs : List V} {ds : List D} {vs : List V} {asA : List A} : FzL P st cs ds → FzA P st vs asA → FzA P st (.agg cs :: vs) (.agg ds :: asA)
end
/-- results that refer to no memory -/
def plD : D → Bool
  | .c _ => true
  | _ => false
def plA : A → Bool
  | .one d => plD d
  | .agg ds => ds.all plD
def plR : Ret → Bool
  | .r1 a => plA a
  | .rt l => l.all plA
/-- a call of a function over data -/
def callK (P : Program) (G : Prop) (st : Nat → Option Blk) (nm : Nat) (f : FuncId) (vs : List V) (K : HK) (_ : Tok K) : Prop :=
  (∃ asA r, toAs vs = some asA ∧ (G → Spec P f asA r) ∧ (P.funcs[f]?).any (fun fn => fn.name != "runtime.NumGoroutine" && fn.body.isSome) = true ∧ K (ofRet r) none) ∨
  (∃ asA el sz d0 es, toAs vs = some asA ∧ (G → SpecO P f asA el sz d0 es) ∧ (P.funcs[f]?).any (fun fn => fn.name != "runtime.NumGoroutine" && fn.body.isSome) = true ∧ K (.mo nm) (some (.row el sz (dV d0) (es.map dV)))) ∨
  (∃ asA r, FzA P st vs asA ∧ (G → Spec P f asA r) ∧ (P.funcs[f]?).any (fun fn => fn.name != "runtime.NumGoroutine" && fn.body.isSome) = true ∧ plR r = true ∧ K (ofRet r) none)
def biK (T : Tab) (st : Nat → Option Blk) (b : Builtin) (ts : List TypeId) (vs : List V) (K : HK) : Prop := match b with
  | .len => match ts, vs with
    | [t], [x] => match ty T t with
      | some ⟨.slice _, _, _, _⟩ => lenK st K x
      | some ⟨.map _ _, _, _, _⟩ => lenM st K x
      | _ => False
    | _, _ => False
  | .min => match vs with
    | [x, y] => mmK (fun a b => vI (if b < a then b else a)) K x y
    | _ => False
  | .max => match vs with
    | [x, y] => mmK (fun a b => vI (if b > a then b else a)) K x y
    | _ => False
  | _ => False
def zD (z : Value) : List D := z.cells.toList.map .c
/-- the elements of a slice literal -/
def rowV (sz : Nat) : Nat → List (Nat × V) → Option (List (List D))
  | _, [] => some []
  | k, (i, x) :: ps => match vcells x with
    | some cs => match toDs cs with
      | some ds => if i = k ∧ ds.length = sz then (rowV sz (k + 1) ps).map (ds :: ·) else none
      | none => none
    | none => none
def rowW (sz : Nat) : Nat → List (Nat × V) → Option (List (List V))
  | _, [] => some []
  | k, (i, x) :: ps => match vcells x with
    | some cs => if i = k ∧ cs.length = sz then (rowW sz (k + 1) ps).map (cs :: ·) else none
    | none => none
/-- x[lo:hi] of elements -/
def cutK (G : Prop) (K : HK) (sz : Nat) (d0 : List D) (es : List (List D)) : Option V → Option V → Prop
  | none, none => K (.d (.sl sz d0 es)) none
  | some (.d (.c (.int _ l))), none => (G → 0 ≤ l ∧ l ≤ es.length) ∧ K (.d (.sl sz d0 (es.drop l.toNat))) none
  | none, some (.d (.c (.int _ h))) => (G → 0 ≤ h ∧ h ≤ es.length) ∧ K (.d (.sl sz d0 (es.take h.toNat))) none
  | some (.d (.c (.int _ l))), some (.d (.c (.int _ h))) => (G → 0 ≤ l ∧ l ≤ h ∧ h ≤ es.length) ∧ K (.d (.sl sz d0 ((es.take h.toNat).drop l.toNat))) none
  | _, _ => False
/-- integers' cells -/
def icells : List V → Option (List Int)
  | [] => some []
  | .d (.c (.int .i64 n)) :: l => (icells l).map (n :: ·)
  | _ :: _ => none
/-- == and != on structs and arrays of n integers -/
def EqInts (P : Program) (t n : Nat) : Prop := ∀ (w : World) (x y : Operand) (a b : List Int), a.length = n → b.length = n → ∀ op, (op = .eql ∨ op = .neq) →
  (do eqGuard op t x y (.agg (a.map (Value.int .i64)).toArray) (.agg (b.map (Value.int .i64)).toArray); binOp op t (.agg (a.map (Value.int .i64)).toArray) (.agg (b.map (Value.int .i64)).toArray) : Sem Value).run P w = .ok (.bool (if op = .eql then a == b else !(a == b))) w
def eqop (b : Bool) (K : V → Prop) : BinOp → Prop
  | .eql => K (vB b)
  | .neq => K (vB (!b))
  | _ => False
def binK (P : Program) (T : Tab) (op : BinOp) (t : Nat) (G : Prop) (K : V → Prop) : V → V → Prop
  | .d (.c (.int k a)), .d (.c (.int k' b)) => iop2 G op k k' a b K
  | .d (.c (.bool a)), .d (.c (.bool b)) => match ty T t with
    | some ⟨.bool, _, _, _⟩ => eqop (a == b) K op
    | _ => False
  | .agg xs, .agg ys => match icells xs, icells ys with
    | some a, some b => (a.length = b.length ∧ EqInts P t a.length) ∧ eqop (a == b) K op
    | _, _ => False
  | .mp _, .d (.c (.map none)) => match ty T t with
    | some ⟨.map _ _, _, _, _⟩ => eqop false K op
    | _ => False
  | .d (.c (.map none)), .d (.c (.map none)) => match ty T t with
    | some ⟨.map _ _, _, _, _⟩ => eqop true K op
    | _ => False
  | _, _ => False
/-- a key as numbers -/
def keyV : KQ → V → Option (List Int)
  | .i, .d (.c (.int .i64 n)) => some [n]
  | .p _, .agg xs => icells xs
  | .s, .d (.c (.string s)) => some (s.data.toList.map fun b => (b.toNat : Int))
  | _, _ => none
structure KeyOk (P : Program) (k : TypeId) (q : KQ) : Prop where
  keyed : Go.Maps.Keyed P k
  fit : ∀ u c, keyC q u = some c → fitK q c → (keyOf P k u).isSome = true
def lkM (c : List Int) : List (List Int × V) → Option V
  | [] => none
  | (d, x) :: l => if c = d then some x else lkM c l
def upM (c : List Int) (v : V) : List (List Int × V) → List (List Int × V)
  | [] => [(c, v)]
  | (d, x) :: l => if c = d then (c, v) :: l else (d, x) :: upM c v l
def dlM (c : List Int) : List (List Int × V) → List (List Int × V)
  | [] => []
  | (d, x) :: l => if c = d then l else (d, x) :: dlM c l
def kq : TyK → Option KQ
  | .int .i64 => some .i
  | .arr n _ => some (.p n)
  | .struct fs => some (.p fs.length)
  | .str => some .s
  | _ => none
/-- a frozen map's entries -/
def vD : D → V
  | .ag ds => .agg (dV ds)
  | x => .d x
def zipM : List (List Int) → List D → List (List Int × V)
  | c :: cs, x :: es => (c, vD x) :: zipM cs es
  | _, _ => []
/-- m[x] -/
def lookK (P : Program) (G : Prop) (st : Nat → Option Blk) (k : Nat) (i : TyI) (ok : Bool) (K : HK) (x : V) : V → Prop
  | .mp n => match st n with
    | some (.map q k' zv z0 es) => match keyV q x with
      | some c => (k' = k ∧ zv = i.z) ∧ KeyOk P k q ∧ (G → fitK q c) ∧ K (match ok with | true => .tup [(lkM c es).getD z0, vB (lkM c es).isSome] | false => (lkM c es).getD z0) none
      | none => False
    | _ => False
  | .d (.mp q k' zv z0 cs es) => match keyV q x with
    | some c => (k' = k ∧ zv = i.z) ∧ KeyOk P k q ∧ (G → fitK q c) ∧ K (match ok with | true => .tup [(lkM c (zipM cs es)).getD (vD z0), vB (lkM c (zipM cs es)).isSome] | false => (lkM c (zipM cs es)).getD (vD z0)) none
    | none => False
  | _ => False
/-- a field of one cell that is no struct and no array -/
def FieldOne (P : Program) (s f : Nat) : Prop := ∃ fields fl, P.underlying s = some (.struct fields) ∧ fields[f]? = some fl ∧ (P.underlying fl.type).map (·.isRow) = some false
/-- the operation, by what its operands are -/
def hop (P : Program) (T : Tab) (G : Prop) (op : Op) (e : Operand → V) (st : Nat → Option Blk) (nm : Nat) (K : HK) : Prop :=
  match op with
  | .move x => K (e x) none
  | .assign x => K (e x) none
  | .pick c x y => pickK G K (e c) (e x) (e y)
  | .extract x i => exK i K (e x)
  | .load t x => match ty T t with
    | some i => ldV G st i K (e x)
    | none => False
  | .alloc t => match ty T t with
    | some i => allOne i.z = true ∧ K (.ptr nm 0) (some (.cells t (zcells i.z)))
    | none => False
  | .fieldAddr s x f => match ty T s with
    | some ⟨.struct fs, _, _, _⟩ => match fs[f]? with
      | some (d, sz) => sz ≠ 0 ∧ addOff d K (e x)
      | none => False
    | _ => False
  | .field s x f => match ty T s, e x with
    | some ⟨.struct fs, _, _, _⟩, .agg cs => match fs[f]? with
      | some (d, _) => match (cs.drop d).head? with
        | some c => FieldOne P s f ∧ K c none
        | none => False
      | none => False
    | _, _ => False
  | .indexAddr t x y => match ty T t with
    | some ⟨.slice el, _, _, _⟩ => match ty T el with
      | some i => ixK G st i.sz K (e x) (e y)
      | none => False
    | _ => False
  | .binOp op t x y _ => binK P T op t G (fun v => K v none) (e x) (e y)
  | .unOp .not _ x => notK K (e x)
  | .convert s t x => match ty T s, tyInt T t with
    | some _, some k => cvK k K (e x)
    | _, _ => False
  | .build t parts => match ty T t with
    | some ⟨.struct fs, _, z, _⟩ => match fillV (fs[·]?) (zcells z) (parts.toList.map fun (i, x) => (i, e x)) with
      | some cs => allOne z = true ∧ K (.agg cs) none
      | none => False
    | some ⟨.arr _ el, _, z, _⟩ => match ty T el with
      | some ⟨_, 1, _, _⟩ => match fillV (fun i => some (i, 1)) (zcells z) (parts.toList.map fun (i, x) => (i, e x)) with
        | some cs => allOne z = true ∧ K (.agg cs) none
        | none => False
      | _ => False
    | _ => False
  | .box t x => match vcells (e x) with
    | some cs => K (.ptr nm 0) (some (.cells t cs))
    | none => False
  | .slice t x lo hi none => match ty T t with
    | some ⟨.slice el, _, _, _⟩ => match ty T el, slOf (e x) with
      | some i, some (sz, d0, es) => sz = i.sz ∧ cutK G K sz d0 es (lo.map e) (hi.map e)
      | _, _ => False
    | _ => False
  | .slice t x none (some h) (some m) => match ty T t with
    | some ⟨.slice el, _, _, _⟩ => match ty T el, slOf (e x), e h, e m with
      | some i, some (sz, d0, es), .d (.c (.int _ a)), .d (.c (.int _ b)) => sz = i.sz ∧ (G → 0 ≤ a ∧ a ≤ b ∧ b ≤ es.length) ∧ K (.d (.sl sz d0 (es.take a.toNat))) none
      | _, _, _, _ => False
    | _ => False
  | .buildSlice t len parts => match ty T t with
    | some ⟨.slice el, _, _, _⟩ => match ty T el with
      | some i => match rowV i.sz 0 (parts.toList.map fun (i, x) => (i, e x)) with
        | some es => (es.length = len ∧ len * i.sz ≤ 16777216 ∧ 0 < i.sz ∧ i.z.cells.size = i.sz) ∧ K (.ow nm i.sz (zD i.z) es) (some (.tok el i.sz len))
        | none => match rowW i.sz 0 (parts.toList.map fun (i, x) => (i, e x)) with
          | some es => (es.length = len ∧ len * i.sz ≤ 16777216 ∧ 0 < i.sz ∧ i.z.cells.size = i.sz) ∧ K (.mo nm) (some (.row el i.sz (dV (zD i.z)) es))
          | none => False
      | none => False
    | _ => False
  | .makeSlice t l c => match ty T t with
    | some ⟨.slice el, _, _, _⟩ => match ty T el, e l, e c with
      | some i, .d (.c (.int _ a)), .d (.c (.int _ b)) => (G → a = b ∧ 0 ≤ a ∧ a ≤ 1048576 ∧ i.by_ ≤ 65536) ∧ (0 < i.sz ∧ i.z.cells.size = i.sz ∧ allOne i.z = true) ∧ K (.mo nm) (some (.row el i.sz (dV (zD i.z)) (List.replicate a.toNat (dV (zD i.z)))))
      | _, _, _ => False
    | _ => False
  | .makeFunc (.func f) fs cs => fs = #[] ∧ K (.fn f (cs.toList.map e)) none
  | .makeMap t none => match ty T t with
    | some ⟨.map k el, _, _, _⟩ => match ty T k, ty T el with
      | some ⟨kd, _, _, _⟩, some i => match kq kd with
        | some q => allOne i.z = true ∧ K (.mp nm) (some (.map q k i.z (ofC i.z) []))
        | none => False
      | _, _ => False
    | _ => False
  | .lookup t m x ok => match ty T t with
    | some ⟨.map k el, _, _, _⟩ => match ty T el with
      | some i => lookK P G st k i ok K (e x) (e m)
      | none => False
    | _ => False
  | .call c => match c.callee with
    | .builtin b => biK T st b c.argTypes.toList (c.args.toList.map e) K
    | .value (.func f) => callK P G st nm f (c.args.toList.map e) K ⟨⟩
    | _ => False
  | _ => False
end Go.Proofs.Ytfndjciojljkfaa
