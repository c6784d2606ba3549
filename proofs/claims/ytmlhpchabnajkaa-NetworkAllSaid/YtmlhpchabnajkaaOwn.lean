/- Rows of the call's own: an append whose new row is the old one or a new block. -/
import Derived.WalkKit
import Derived.WalkLawsBesides
import Derived.WalkSpells
import Derived.Lib.Hide
import Derived.Deep.QuietTactic
import Derived.BigQuiet
import Derived.Deep.LoopGhost
import Derived.Deep.DeepCutAuto
import Derived.Deep.DeepFit
import Derived.Deep.Light
import Derived.Maps.Range
import Derived.Maps.AppendAt
import Derived.StillTailTactics
import Derived.Lib.AppendStr
import Derived.Deep.AppendLies
import Derived.Deep.RegionHeld3
import Derived.Deep.DrawnRows
namespace Go.Proofs.Ytmlhpchabnajkaa
set_option linter.unusedSimpArgs false
set_option linter.unusedVariables false
open Go.RowKit

section
variable {P : Program}
/-- The row v of w has become the row v' of w': nothing but v's block has been written; v' lies in v's block or in a new one. -/
structure Grew (base : Nat) (e : TypeId) (size : Nat) (w : World) (v : Value) (v' : Value) (n : Nat) (xs : List Value) (w' : World) : Prop where
  own : w'.ownsRow base e size v' n xs
  by_ : w.grownBy w' v.ownBlock
  new : ∀ g, v'.ownBlock = some g → w.heap.size ≤ g ∨ v.ownBlock = some g

theorem grownBy_refl (w : World) (row : Option Nat) : w.grownBy w row := ⟨rfl, rfl, rfl, Nat.le_refl _, fun _ _ _ => rfl⟩
theorem Grew.refl {base : Nat} {e : TypeId} {size : Nat} {w : World} {v : Value} {n : Nat} {xs : List Value} (h : w.ownsRow base e size v n xs) : Grew base e size w v v n xs w :=
  ⟨h, grownBy_refl _ _, fun _ h => .inr h⟩
theorem Grew.trans {base : Nat} {e : TypeId} {size : Nat} {w w1 w2 : World} {v v1 v2 : Value} {n n2 : Nat} {xs xs2 : List Value}
    (h : Grew base e size w v v1 n xs w1) (h2 : Grew base e size w1 v1 v2 n2 xs2 w2) : Grew base e size w v v2 n2 xs2 w2 :=
  ⟨h2.own, h.by_.andThen h2.by_ h.new, fun g hg => by
    rcases h2.new g hg with h3 | h3
    · exact .inl (Nat.le_trans h.by_.size h3)
    · exact h.new g h3⟩
/-- ahead of it new memory has been made -/
theorem Grew.behind {base : Nat} {e : TypeId} {size : Nat} {w w0 w' : World} {v v' : Value} {n : Nat} {xs : List Value}
    (h : Grew base e size w0 v v' n xs w') (hb : Below w.heap.size w w0) : Grew base e size w v v' n xs w' :=
  ⟨h.own, (⟨hb.os, hb.tape, hb.output, hb.size, fun k hk _ => hb.block k hk⟩ : w.grownBy w0 v.ownBlock).andThen h.by_ (fun j hj => .inr hj), fun g hg => by
    rcases h.new g hg with h3 | h3
    · exact .inl (Nat.le_trans hb.size h3)
    · exact .inr h3⟩
/-- behind it nothing but new memory has been made -/
theorem Grew.then_ {base : Nat} {e : TypeId} {size : Nat} {w w1 w' : World} {v v' : Value} {n : Nat} {xs : List Value}
    (h : Grew base e size w v v' n xs w1) (hb : Below w1.heap.size w1 w') : Grew base e size w v v' n xs w' := by
  have hg : w1.grownBy w' none := ⟨hb.os, hb.tape, hb.output, hb.size, fun k hk _ => hb.block k hk⟩
  refine ⟨h.own.kept hg ?_, h.by_.andThen hg (fun j hj => by cases hj), h.new⟩
  cases hv : v'.ownBlock with
  | none => exact .inl rfl
  | some g => exact .inr (by simp)
/-- a row that is new or grown lies beyond what was there: the world below is as it was -/
theorem Grew.below {base : Nat} {e : TypeId} {size : Nat} {w w' : World} {v v' : Value} {n : Nat} {xs : List Value} {B : Nat}
    (h : Grew base e size w v v' n xs w') (hB : B ≤ w.heap.size) (hv : ∀ g, v.ownBlock = some g → B ≤ g) : Below B w w' :=
  (Below.refl B w).grown h.by_ hB hv
theorem Grew.other {base : Nat} {e : TypeId} {size : Nat} {w w' : World} {v v' : Value} {n : Nat} {xs : List Value}
    (h : Grew base e size w v v' n xs w') {b : Nat} (hb : b < w.heap.size) (hne : v.ownBlock ≠ some b) : w'.heap[b]? = w.heap[b]? := h.by_.block b hb (fun e => hne e.symm)
theorem Grew.cell {base : Nat} {e : TypeId} {size : Nat} {w w' : World} {v v' : Value} {n : Nat} {xs : List Value}
    (h : Grew base e size w v v' n xs w') {a : Addr} {u : Value} (hc : w.cell? a = some u) (hne : v.ownBlock ≠ some a.block) : w'.cell? a = some u := h.by_.cell hc (fun e => hne e.symm)

theorem run_append_own2 (w : World) (base : Nat) (t ty e : TypeId) (i : TypeInfo) (z : Value) (size bytes : Nat) (ht : P.underlying t = some (.slice e)) (hi : P.info? e = some i) (hz : i.zero = some z)
    (hsize : i.size = size) (hby : i.bytes = bytes) (hzs : z.cells.size = size) (hsz : 0 < size)
    (v : Value) (n : Nat) (xs : List Value) (hown : w.ownsRow base e size v n xs)
    (a : Addr) (m c : Nat) (news : List Value) (hl : news.length = m * size) (hnews : ∀ j u, news[j]? = some u → w.cell? (a.add j) = some u) (h1 : ∀ u ∈ news, u.oneCell' = true)
    (h63 : n + m ≤ maxLen) (hbytes : (n + m) * bytes ≤ 140737488355328) (hbase : base ≤ w.heap.size) :
    ∃ v' w', (Builtin.append_ #[t, t] ty #[v, .slice (some a) m c]).run P w = .ok v' w' ∧ Grew base e size w v v' (n + m) (xs ++ news) w' := by
  obtain ⟨v', w', hr, h2, h3, h4⟩ := run_append_own (P := P) w base t ty e i z size bytes ht hi hz hsize hby hzs hsz v n xs hown a m c news hl hnews h1 h63 hbytes hbase
  refine ⟨v', w', hr, h2, h3, fun g hg => ?_⟩
  subst hsize
  subst hby
  have hsmall : n + m ≤ 9223372036854775807 := by simp only [maxLen] at h63; omega
  rcases hown.2 with ⟨rfl, rfl⟩ | ⟨g0, cap, cur, rfl, hbg, hg0, hnc, hcm, hcs, htake⟩
  · by_cases hm : m = 0
    · rw [h4.2 ⟨rfl, hm⟩] at hg; cases hg
    · have hr2 := run_append_nil (P := P) w t ty e i z ht hi hz a m c news hl hnews (by omega) (by omega) (by have hb := hbytes; simp only [Nat.zero_add] at hb; omega)
      rw [hr2] at hr
      injection hr with e1 e2
      subst e1
      injection hg with hg; subst hg
      exact .inl (Nat.le_refl _)
  · by_cases hroom : n + m ≤ cap
    · have hfit : n * i.size + news.length ≤ cur.size := by rw [hl, hcs, ← Nat.add_mul]; exact Nat.mul_le_mul_right _ hroom
      have hr2 := run_append_room (P := P) w t ty e i ht hi g0 n cap cur hg0 a m c news hl hnews h1 hroom hfit
      rw [hr2] at hr
      injection hr with e1 e2
      subst e1
      exact .inr hg
    · have hr2 := run_append_grow (P := P) w t ty e i z ht hi hz ⟨g0, 0, none⟩ n cap xs hown.1 (hown.cells (g := g0) rfl) a m c news hl hnews (by omega) (by omega) (growslice_fits (by omega) hbytes)
      rw [hr2] at hr
      injection hr with e1 e2
      subst e1
      injection hg with hg; subst hg
      exact .inl (Nat.le_refl _)

/-- What is appended: a slice's cells, nothing (nil), a string's bytes. -/
def Source (P : Program) (t tx : TypeId) (size : Nat) (w : World) (x : Value) (m : Nat) (news : List Value) : Prop :=
  (∃ ad c, x = .slice (some ad) m c ∧ tx = t ∧ news.length = m * size ∧ (∀ j u, news[j]? = some u → w.cell? (ad.add j) = some u) ∧ (∀ u ∈ news, u.oneCell' = true)) ∨
  ((∃ c, x = .slice none 0 c) ∧ m = 0 ∧ news = [] ∧ tx = t) ∨
  (∃ s, x = .string s ∧ m = s.size ∧ news = Lib.strCells s ∧ P.underlying tx = some .string ∧ size = 1)
theorem Source.cells {t tx : TypeId} {size : Nat} {w : World} (ad : Addr) (m c : Nat) (news : List Value) (ht : tx = t) (hl : news.length = m * size) (hnews : ∀ j u, news[j]? = some u → w.cell? (ad.add j) = some u) (h1 : ∀ u ∈ news, u.oneCell' = true) :
    Source P t tx size w (.slice (some ad) m c) m news := .inl ⟨ad, c, rfl, ht, hl, hnews, h1⟩
theorem Source.nil {t tx : TypeId} {size : Nat} {w : World} {c : Nat} (ht : tx = t) : Source P t tx size w (.slice none 0 c) 0 [] := .inr (.inl ⟨⟨c, rfl⟩, rfl, rfl, ht⟩)
theorem Source.text {t tx : TypeId} {size : Nat} {w : World} (s : ByteArray) (hu : P.underlying tx = some .string) (h1 : size = 1) : Source P t tx size w (.string s) s.size (Lib.strCells s) := .inr (.inr ⟨s, rfl, rfl, rfl, hu, h1⟩)
/-- a row of the call's own as a source -/
theorem Source.own {t e : TypeId} {size : Nat} {w : World} {base : Nat} {v : Value} {n : Nat} {xs : List Value} (h : w.ownsRow base e size v n xs) (h1 : ∀ u ∈ xs, u.oneCell' = true) : Source P t t size w v n xs := by
  have hl := h.1
  have hc := fun (g : Nat) (hg : v.ownBlock = some g) => h.cells hg
  rcases h.2 with ⟨rfl, rfl⟩ | ⟨g, cap, cur, rfl, _⟩
  · have : xs = [] := List.eq_nil_of_length_eq_zero (by simpa using hl)
    subst this
    exact Source.nil rfl
  · exact Source.cells _ _ _ _ rfl hl (hc g rfl) h1
/-- one element, laid into a block of its own -/
theorem Source.one {t e : TypeId} {w : World} (g : Nat) (u : Value) (hg : w.heap[g]? = some (.cells #[u] e (0, 0))) (h1 : u.oneCell' = true) : Source P t t 1 w (.slice (some ⟨g, 0, none⟩) 1 1) 1 [u] :=
  Source.cells _ _ _ _ rfl rfl (World.news_of_block (cs := #[u]) (t := e) (fr := (0, 0)) hg) (by simpa using h1)

theorem run_append_string2 (w : World) (base : Nat) (t u ty e : TypeId) (i : TypeInfo) (ht : P.underlying t = some (.slice e)) (hu : P.underlying u = some .string) (hi : P.info? e = some i) (hz : i.zero = some (.int .u8 0))
    (hsize : i.size = 1) (hby : i.bytes = 1) (v : Value) (n : Nat) (xs : List Value) (hown : w.ownsRow base e 1 v n xs) (s : ByteArray)
    (h63 : n + s.size ≤ maxLen) (hbytes : n + s.size ≤ 140737488355328) (hbase : base ≤ w.heap.size) :
    ∃ v' w', (Builtin.append_ #[t, u] ty #[v, .string s]).run P w = .ok v' w' ∧ Grew base e 1 w v v' (n + s.size) (xs ++ Lib.strCells s) w' := by
  obtain ⟨v', w', hr, h2, h3, h4⟩ := Lib.run_append_own_string (P := P) w base t u ty e i ht hu hi hz hsize hby v n xs hown s h63 hbytes hbase
  refine ⟨v', w', hr, h2, h3, fun g hg => ?_⟩
  have hsmall : n + s.size ≤ 9223372036854775807 := by simp only [maxLen] at h63; omega
  have hxl : xs.length = n := by simpa using hown.1
  rcases hown.2 with ⟨rfl, rfl⟩ | ⟨g0, cap, cur, rfl, hbg, hg0, hnc, hcm, hcs, htake⟩
  · by_cases hm : s.size = 0
    · rw [h4.2 ⟨rfl, hm⟩] at hg; cases hg
    · have hr2 := run_append_nil_string (P := P) w t u ty e i (.int .u8 0) ht hu hi hz s (by omega) (by omega) (by rw [hby]; omega)
      rw [hr2] at hr
      injection hr with e1 e2
      subst e1
      injection hg with hg; subst hg
      exact .inl (Nat.le_refl _)
  · by_cases hroom : n + s.size ≤ cap
    · have hcs' : cur.size = cap := by simpa using hcs
      have hr2 := Lib.run_append_room_string (P := P) w t u ty e i ht hu hi hsize g0 n cap cur hg0 s hroom (by omega)
      rw [hr2] at hr
      injection hr with e1 e2
      subst e1
      exact .inr hg
    · have hr2 := Lib.run_append_grow_string (P := P) w t u ty e i (.int .u8 0) ht hu hi hz ⟨g0, 0, none⟩ n cap xs (by rw [hsize]; simpa using hxl) (hown.cells (g := g0) rfl) s (by omega) (by omega) (by rw [hby]; exact growslice_fits (by omega) (by omega))
      rw [hr2] at hr
      injection hr with e1 e2
      subst e1
      injection hg with hg; subst hg
      exact .inl (Nat.le_refl _)

/-- What a row's element type is: its zero value, its cells, its bytes. -/
structure Elem (P : Program) (t e : TypeId) (z : Value) (size bytes : Nat) : Prop where
  ht : P.underlying t = some (.slice e)
  info : (P.info? e).map (fun i => (i.zero, i.size, i.bytes)) = some (some z, size, bytes)
  hzs : z.cells.size = size
  pos : 0 < size
  byte : size = 1 → bytes = 1 → z = .int .u8 0

theorem run_append_any (w : World) (base : Nat) {t tx ty e : TypeId} {z : Value} {size bytes : Nat} (E : Elem P t e z size bytes) (v : Value) (n : Nat) (xs : List Value) (hown : w.ownsRow base e size v n xs)
    (x : Value) (m : Nat) (news : List Value) (hS : Source P t tx size w x m news) (hb1 : tx = t ∨ bytes = 1)
    (h63 : n + m ≤ maxLen) (hbytes : (n + m) * bytes ≤ 140737488355328) (hbase : base ≤ w.heap.size) :
    ∃ v' w', (Builtin.append_ #[t, tx] ty #[v, x]).run P w = .ok v' w' ∧ Grew base e size w v v' (n + m) (xs ++ news) w' := by
  obtain ⟨i, hi, hz, hsz, hby⟩ := info_parts E.info
  rcases hS with ⟨ad, c, rfl, rfl, hl, hnews, h1⟩ | ⟨⟨c, rfl⟩, rfl, rfl, rfl⟩ | ⟨s, rfl, rfl, rfl, hu, h1⟩
  · exact run_append_own2 w base _ ty e i z size bytes E.ht hi hz hsz hby E.hzs E.pos v n xs hown ad _ c _ hl hnews h1 h63 hbytes hbase
  · have hrun : (Builtin.append_ #[tx, tx] ty #[v, .slice none 0 c]).run P w = .ok v w := by
      rcases hown.2 with ⟨rfl, rfl⟩ | ⟨g, cap, cur, rfl, _, _, hnc, _⟩
      · simp [Builtin.append_, run_underlying E.ht, sizeOf, typeInfo, hi, Builtin.lenOf, Builtin.firstCells]
      · simp [Builtin.append_, run_underlying E.ht, sizeOf, typeInfo, hi, Builtin.lenOf, Builtin.firstCells, hnc, storeCells]
    refine ⟨v, w, hrun, ?_⟩
    simpa using Grew.refl hown
  · rcases hb1 with h | h
    · rw [h, E.ht] at hu; cases hu
    · subst h1 h
      have := E.byte rfl rfl
      subst this
      exact run_append_string2 w base t tx ty e i E.ht hu hi hz hsz hby v n xs hown s h63 (by omega) hbase

section
variable {w : World} {a : Act} {ops : Array Oper} {rest : List Oper} {o : Oper} {Q : Exit → Act → World → Prop}
/-- an append at a plain region's list -/
theorem wpList_app (hgd : o.guard = none) (s x : Operand) {t tx e : TypeId} {z : Value} {size bytes : Nat}
    (ho : o.op = .call { callee := .builtin .append, args := #[s, x], argTypes := #[t, tx] }) (E : Elem P t e z size bytes)
    (base : Nat) (v : Value) (n : Nat) (xs : List Value) (hs : a.eval s = v) (hown : w.ownsRow base e size v n xs) (xv : Value) (m : Nat) (news : List Value) (hx : a.eval x = xv) (hS : Source P t tx size w xv m news) (hb1 : tx = t ∨ bytes = 1)
    (h63 : n + m ≤ maxLen) (hbytes : (n + m) * bytes ≤ 140737488355328) (hbase : base ≤ w.heap.size)
    (h : ∀ v' w', Grew base e size w v v' (n + m) (xs ++ news) w' → wpList P ops Q rest (a.put o.dst v') w') : wpList P ops Q (o :: rest) a w := by
  refine wpList_plain hgd fun _ hK => ?_
  obtain ⟨v', w', hr, h2⟩ := run_append_any (P := P) w base (ty := o.type) E v n xs hown xv m news hS hb1 h63 hbytes hbase
  unfold Oper.wp execOp
  simp only [ho, resolve, invoke, builtin, Sem.run_bind, Sem.run_pure, Result.andThen_ok, List.map_toArray, List.map_cons, List.map_nil, hs, hx, hr]
  exact hK _ _ (h v' w' h2)
/-- an append at a step of a region that draws its order -/
theorem step_app {K : Act → World → Prop} {E' : Prop} (hgd : o.guard = none) (s x : Operand) {t tx e : TypeId} {z : Value} {size bytes : Nat}
    (ho : o.op = .call { callee := .builtin .append, args := #[s, x], argTypes := #[t, tx] }) (E : Elem P t e z size bytes)
    (base : Nat) (v : Value) (n : Nat) (xs : List Value) (hs : a.eval s = v) (hown : w.ownsRow base e size v n xs) (xv : Value) (m : Nat) (news : List Value) (hx : a.eval x = xv) (hS : Source P t tx size w xv m news) (hb1 : tx = t ∨ bytes = 1)
    (h63 : n + m ≤ maxLen) (hbytes : (n + m) * bytes ≤ 140737488355328) (hbase : base ≤ w.heap.size)
    (h : ∀ v' w', Grew base e size w v v' (n + m) (xs ++ news) w' → K (a.put o.dst v') w') :
    if Region.wanted o (yielded ops a.tmps) = true then Oper.wp P o a w K Q else E' := by
  have hw : Region.wanted o (yielded ops a.tmps) = true := by simp [Region.wanted, hgd]
  rw [if_pos hw]
  obtain ⟨v', w', hr, h2⟩ := run_append_any (P := P) w base (ty := o.type) E v n xs hown xv m news hS hb1 h63 hbytes hbase
  unfold Oper.wp execOp
  simp only [ho, resolve, invoke, builtin, Sem.run_bind, Sem.run_pure, Result.andThen_ok, List.map_toArray, List.map_cons, List.map_nil, hs, hx, hr]
  exact h v' w' h2
end

theorem wpList_append_own2 {w : World} {ops : Array Oper} {rest : List Oper} {o : Oper} {a : Act} {Q : Exit → Act → World → Prop} (hgd : o.guard = none) (s x : Operand) (t : TypeId)
    (ho : o.op = .call { callee := .builtin .append, args := #[s, x], argTypes := #[t, t] })
    (base : Nat) (e : TypeId) (i : TypeInfo) (z : Value) (size bytes : Nat) (ht : P.underlying t = some (.slice e)) (hi : P.info? e = some i) (hz : i.zero = some z)
    (hsize : i.size = size) (hby : i.bytes = bytes) (hzs : z.cells.size = size) (hsz : 0 < size)
    (v : Value) (n : Nat) (xs : List Value) (hs : a.eval s = v) (hown : w.ownsRow base e size v n xs)
    (ad : Addr) (m c : Nat) (news : List Value) (hx : a.eval x = .slice (some ad) m c) (hl : news.length = m * size) (hnews : ∀ j u, news[j]? = some u → w.cell? (ad.add j) = some u) (h1 : ∀ u ∈ news, u.oneCell' = true)
    (h63 : n + m ≤ maxLen) (hbytes : (n + m) * bytes ≤ 140737488355328) (hbase : base ≤ w.heap.size)
    (h : ∀ v' w', Grew base e size w v v' (n + m) (xs ++ news) w' → wpList P ops Q rest (a.put o.dst v') w') : wpList P ops Q (o :: rest) a w := by
  refine wpList_plain hgd fun _ hK => ?_
  obtain ⟨v', w', hr, h2⟩ := run_append_own2 (P := P) w base t o.type e i z size bytes ht hi hz hsize hby hzs hsz v n xs hown ad m c news hl hnews h1 h63 hbytes hbase
  unfold Oper.wp execOp
  simp only [ho, resolve, invoke, builtin, Sem.run_bind, Sem.run_pure, Result.andThen_ok, List.map_toArray, List.map_cons, List.map_nil, hs, hx, hr]
  exact hK _ _ (h v' w' h2)
end
theorem le_alloc {b : Nat} {w : World} (h : b ≤ w.heap.size) (o : Obj) : b ≤ (w.alloc o).heap.size := by simp; omega
theorem one_int (k : IntKind) (n : Int) : ∀ u ∈ [Value.int k n], u.oneCell' = true := by simp [Value.oneCell']
theorem maxLen_le {n : Nat} (h : n ≤ 140737488355328) : n ≤ maxLen := by unfold maxLen; omega
end Go.Proofs.Ytmlhpchabnajkaa
