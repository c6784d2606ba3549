/- network.cuts: what it hands back -/
import Derived.Test.YtmlhpchabnajkaaNet18
namespace Go.Proofs.Ytmlhpchabnajkaa
set_option linter.unusedSimpArgs false
set_option linter.unusedVariables false
open Go.RowKit Go.Shelf
theorem cells_pr {F F' : Nat → Prop} {w w' : World} : ∀ {l : List (Int × Int)} {xs : List Value}, CellsL RPr F w l xs → CellsL RPr F' w' l xs
  | [], _, h => h
  | _ :: _, _, ⟨c, ys, e, h, h2⟩ => ⟨c, ys, e, h, cells_pr h2⟩
theorem cuts_any (lst : List (Int × Int)) (c : Int × Int) (on : Bool) (aa : Option Addr) (ac : Nat) (w : World) :
    Calls Try.prog 39 #[.slice aa lst.length ac, .agg #[.int .i64 c.1, .int .i64 c.2], .bool on] w fun e w' =>
      e = .returned (.func (.func 46) #[] #[.pointer (some ⟨w.heap.size + 1, 0, none⟩), .pointer (some ⟨w.heap.size + 1 + 1, 0, none⟩), .pointer (some ⟨w.heap.size, 0, none⟩)]) ∧
        w' = ((w.alloc (.cells #[.slice aa lst.length ac] 23)).alloc (.cells #[.int .i64 c.1, .int .i64 c.2] 58)).alloc (.cells #[.bool on] 4) := by
  go_enter Try.func39, Try.ntmps39
  go_wp2
  go_ret
  exact ⟨rfl, rfl⟩
theorem cuts_stops (n : Nat) (hn : 1 ≤ n) (lst : List (Int × Int)) (c : Int × Int) (on : Bool) (n₀ S Bc Bo Bl : Nat) (aa : Option Addr) (ac : Nat) (w : World) (hn₀ : n₀ ≤ w.heap.size) (hl : lst.length ≤ 140737488351232) (hrow : RRow 2 RPr (fun b => b < n₀ ∧ b ≠ S) w lst aa)
    (hc : Box w Bc #[.int .i64 c.1, .int .i64 c.2] 58) (ho : Box w Bo #[.bool on] 4) (hb : Box w Bl #[.slice aa lst.length ac] 23) (hBc : Bc < n₀) (hBo : Bo < n₀) (hBl : Bl < n₀) (hSc : Bc ≠ S) (hSo : Bo ≠ S) (hSl : Bl ≠ S) :
    SeqStopsK Fence.wide n Try.prog 46 #[.pointer (some ⟨Bc, 0, none⟩), .pointer (some ⟨Bo, 0, none⟩), .pointer (some ⟨Bl, 0, none⟩)] encW (Kept n₀ S) (fun ys => prs ys = colAcc (keepB lst c on) 24) (fun _ => True) 577 w := fun l J Jx W hW hJ _ hY h0 =>
  cuts1_in n hn lst c on n₀ S l Bc Bo Bl aa ac J Jx hY W hJ (Nat.le_trans hn₀ hW.size) hl (hrow.keep good_pr (fun _ h => h) (fun b h => hW.block b (Nat.lt_of_lt_of_le h.1 hn₀))) (hc.below hW) (ho.below hW) (hb.below hW) hBc hBo hBl hSc hSo hSl h0
section
variable {F : Fence} {nF : Nat} {P : Program} {w : World} {ops : Array Oper} {rest : List Oper} {o : Oper} {a : Act} {Q : Exit → Act → World → Prop}
theorem wpListIn_app (hgd : o.guard = none) (s x : Operand) {t tx e : TypeId} {z : Value} {size bytes : Nat}
    (ho : o.op = .call { callee := .builtin .append, args := #[s, x], argTypes := #[t, tx] }) (E : Elem P t e z size bytes)
    (base : Nat) (v : Value) (n : Nat) (xs : List Value) (hs : a.eval s = v) (hown : w.ownsRow base e size v n xs) (xv : Value) (m : Nat) (news : List Value) (hx : a.eval x = xv) (hS : Source P t tx size w xv m news) (hb1 : tx = t ∨ bytes = 1)
    (h63 : n + m ≤ maxLen) (hbytes : (n + m) * bytes ≤ 140737488355328) (hbase : base ≤ w.heap.size)
    (h : ∀ v' w', Grew base e size w v v' (n + m) (xs ++ news) w' → wpListIn F nF P ops Q rest (a.put o.dst v') w') : wpListIn F nF P ops Q (o :: rest) a w := by
  refine wpListIn_plain hgd fun K hK => ?_
  obtain ⟨v', w', hr, h2⟩ := run_append_any (P := P) w base (ty := o.type) E v n xs hown xv m news hS hb1 h63 hbytes hbase
  unfold Oper.wpIn
  refine ⟨by simp [Oper.about, ho, resolve, Target.leads, Sem.run_pure], ?_⟩
  rw [Oper.semAt_plain F _ _ (by rw [ho]; intro c hc'; cases hc')]
  simp [execOp, ho, resolve, invoke, builtin, hs, hx, hr, Result.andThen]
  exact hK _ _ (h v' w' h2)
end
/-- between two rounds: the net's variable, the links that have come in a row of the call's own -/
def RoundI (w : World) (s B : Nat) (q : Value) (pre : List PrW) (W : World) : Prop :=
  (∃ v, Box W (s + 1) #[q, v] 25 ∧ OwnL RPr 2 55 B W v (prs pre)) ∧ Below s w W ∧ B ≤ W.heap.size
theorem roundI_own {w : World} {s B : Nat} {q : Value} (hs : s ≤ w.heap.size) (hB : s + 1 < B) : OwnFrom B (RoundI w s B q) := fun pre W W' row h hg hr => by
  obtain ⟨⟨v, hb, xs, ho, hc⟩, hbl, hBW⟩ := h
  refine ⟨⟨v, (hg.block (s + 1) hb.lt (fun e => by have := (hr _ e.symm).1; omega)).trans hb, xs, ho.kept hg ?_, cells_pr hc⟩, hbl.grown hg (Nat.le_trans hs hbl.size) (fun k e => by have := (hr k e).1; omega), Nat.le_trans hBW hg.size⟩
  cases hv : v.ownBlock with
  | none => exact .inl rfl
  | some g =>
    refine .inr fun e => ?_
    obtain ⟨_, o, h1, h2⟩ := hr g e.symm
    rcases ho.2 with ⟨hv', _⟩ | ⟨g', cap, cur, hv', _, hgg, _⟩
    · rw [hv'] at hv; cases hv
    · rw [hv'] at hv
      cases hv
      have h3 := hgg.symm.trans h1
      cases h3
      simp [Obj.isCells] at h2
theorem round_app {w W w5 : World} {s B : Nat} {q v v5 : Value} {pre : List PrW} {x : PrW} {xs : List Value} {F' : Nat → Prop} {W' : World} (o : Obj) (hbz : Box W (s + 1) #[q, v] 25) (hown : W.ownsRow B 55 2 v (prs pre).length xs) (hcl : CellsL RPr F' W' (prs pre) xs) (hB : Below s w W) (hsw : s ≤ w.heap.size) (hsB : s + 1 < B) (hBW : B ≤ W.heap.size)
    (hg : Grew B 55 2 (W.alloc o) v v5 ((prs pre).length + 1) (xs ++ [.int .i64 x.1.1, .int .i64 x.1.2]) w5) :
    ∃ a5 c5, v5 = .slice a5 ((prs pre).length + 1) c5 ∧ Box w5 (s + 1) #[q, v] 25 ∧ KeepsFrom B W (w5.setCell ⟨s + 1, 1, none⟩ v5) ∧ Kept B (s + 1) W (w5.setCell ⟨s + 1, 1, none⟩ v5) ∧ RoundI w s B q (pre ++ [x]) (w5.setCell ⟨s + 1, 1, none⟩ v5) := by
  have hsz : W.heap.size ≤ (W.alloc o).heap.size := by simp
  have hbA := hbz.alloc o
  have hownA := own_later hown (below_new W o)
  have hge : ∀ g, v.ownBlock = some g → B ≤ g := fun g e => (hown.lt g e).1
  have hne : v.ownBlock ≠ some (s + 1) := fun e => by have := hge _ e; omega
  have hb5 : Box w5 (s + 1) #[q, v] 25 := (hg.other hbA.lt hne).trans hbA
  have hne5 : v5.ownBlock ≠ some (s + 1) := fun e => by
    rcases hg.new _ e with h | h
    · have := hbz.lt; omega
    · exact hne h
  obtain ⟨a5, c5, hv5, _⟩ := own_form hg.own
  have hss : (w5.setCell ⟨s + 1, 1, none⟩ v5).heap.size = w5.heap.size := by simp [World.setCell]
  refine ⟨a5, c5, hv5, hb5, ?_, ?_, ?_⟩
  · refine (((KeepsOthers.alloc W o).trans (KeepsOthers.of_grownBy hg.by_ (fun j o' e h => ?_))).trans (KeepsOthers.setCell _ _ _)).from _
    rcases hownA.2 with ⟨hv', _⟩ | ⟨g', cap, cur, hv', _, hgg, _⟩
    · rw [hv'] at e; cases e
    · rw [hv'] at e
      cases e
      have h3 := hgg.symm.trans h
      cases h3
      rfl
  · refine (Kept.of_below ((below_new W o).mono hBW)).trans ((⟨hg.by_.size, fun b hb _ => hg.other (by omega) (fun e => by have := hge _ e; omega)⟩ : Kept B (s + 1) (W.alloc o) w5).trans ⟨by omega, fun b _ h2 => ?_⟩)
    exact Below.heap_setCell _ _ _ _ (by show b ≠ s + 1; exact h2)
  · have hgr : w5.grownBy (w5.setCell ⟨s + 1, 1, none⟩ v5) (some (s + 1)) := ⟨rfl, rfl, rfl, by omega, fun k _ hk => Below.heap_setCell _ _ _ _ (by show k ≠ s + 1; exact fun e => hk (by rw [e]))⟩
    refine ⟨⟨v5, ?_, xs ++ [.int .i64 x.1.1, .int .i64 x.1.2], ?_, ?_⟩, ?_, by have := hg.by_.size; omega⟩
    · have h := hb5.set 1 v5
      simpa using h
    · have h := hg.own.kept hgr (.inr hne5)
      rw [prs_snoc, List.length_append]
      exact h
    · rw [prs_snoc]
      exact CellsL.append (cells_pr hcl) (CellsL.single ⟨rfl, x.2.1, x.2.2⟩)
    · have h1 : Below s w (W.alloc o) := hB.alloc (Nat.le_trans hsw hB.size) o
      exact (h1.trans (hg.below (B := s) (by have := hbA.lt; omega) (fun g e => by have := hge g e; omega))).setCell (by simp) _
end Go.Proofs.Ytmlhpchabnajkaa
