/- frankingref01: the reader's lists -/
import Derived.Test.YtedkoifbjmemdaaRVal2
namespace Go.Proofs.Ytedkoifbjmemdaa
open Go.RowKit
attribute [local go_sem ↓] Go.wp_at_zero Go.wp_at_succ
theorem decList_no {f : List UInt8 → Option (V × List UInt8)} {r : List UInt8} (h : decNum r = none) : decList f r = none := by unfold decList; rw [h]
theorem decList_long {f : List UInt8 → Option (V × List UInt8)} {r r' : List UInt8} {n : Nat} (h : decNum r = some (n, r')) (hn : ¬ n ≤ r'.length) : decList f r = none := by unfold decList; rw [h]; simp [hn]
theorem decLen_ok {r r' : List UInt8} {n : Nat} (h : decNum r = some (n, r')) (hn : n ≤ r'.length) : decLen r = some (n, r') := by unfold decLen; rw [h]; simp [hn]
set_option maxRecDepth 100000 in
set_option maxHeartbeats 3200000 in
/-- a list whose length cannot be: the depth does not matter -/
theorem rvalue_3no (d : Nat) (bs : List UInt8) (at_ : Nat) (c : UInt8) (R : Nat) (w : World) (hr : RR w R bs at_ false) (hlt : at_ < bs.length) (hc : bs[at_] = c) (hx : c.toNat = 3) (dep : Int)
    (hno : decLen (bs.drop (at_ + 1)) = none) (hdn : decV d (bs.drop at_) = none) :
    Calls Try.prog 34 #[.pointer (some ⟨R, 0, none⟩), .int .i64 dep] w (RVal d bs at_ R w) := by
  have HNO := Lib.hid hno
  have HDN := Lib.hid hdn
  clear hno hdn
  have H0 := Lib.hid (rv0_of hr)
  have hRl := hr.lt
  have hnx := next_some R bs at_ false _ H0.out.rr hlt
  rw [hc, hx] at hnx
  have hne : ¬ w.heap.size = R := by omega
  have HNX := Lib.hid hnx
  clear hr hc hx hnx
  go_enter Try.func34, Try.ntmps34
  go_wp2_with fail
  refine (HNX.out).mono ?_
  rintro e w1 ⟨rfl, hr1, hg1⟩
  have h1 := H0.out.step hr1 hg1
  have H1 := Lib.hid h1
  clear h1 hr1 hg1 H0 HNX
  go_wp2_with fail
  refine (rnumber_any bs (at_ + 1) R w1 H1.out.rr).mono ?_
  rintro e w2 ⟨hg2, ⟨u, r, at', hd, rfl, hr2, hrest⟩ | ⟨hd, rfl, at', hr2⟩⟩
  · have h2 := H1.out.step hr2 hg2
    obtain ⟨x0, x1, x2, x3⟩ := h2.box.cells
    obtain ⟨f0, f1, f2, f3⟩ := h2.box.free
    obtain ⟨a1, cap1, y0, y1, y2, fy1, fy2, hal, hbl⟩ := h2.rr.cells
    have H2 := Lib.hid h2
    have hrl : r.length = bs.length - at' := by rw [← hrest, List.length_drop]
    have hle : ¬ u ≤ r.length := fun h => by have := HNO.out; rw [decLen_ok hd h] at this; cases this
    have kw1 : IntKind.i64.wrap ((bs.length : Int) - at') = bs.length - at' := IntWalk.i64_in _ (by omega)
    have kw2 : IntKind.u64.wrap ((bs.length : Int) - at') = bs.length - at' := by
      have := wrapU (bs.length - at') (by omega)
      rw [show ((bs.length - at' : Nat) : Int) = (bs.length : Int) - at' by omega] at this
      exact this
    have hdc : decide ((bs.length : Int) - at' < u) = true := by simp; omega
    clear h2 hr2 hg2 hd hrest hle hrl
    go_wp2_with fail
    go_quiet (fail)
    go_wp2
    have h5 := (H2.out.drewN nq).toBad.res (.int .i64 0) (.int .i64 0) (.string ⟨#[]⟩) (.slice none 0 0)
    generalize ((((((w2.drewN nq).setCell ⟨R, 2, none⟩ (.bool true))).setCell ⟨w.heap.size, 0, none⟩ (.int .i64 0)).setCell ⟨w.heap.size, 1, none⟩ (.int .i64 0)).setCell ⟨w.heap.size, 2, none⟩ (.string ⟨#[]⟩)).setCell ⟨w.heap.size, 3, none⟩ (.slice none 0 0) = W5 at *
    exact bodyPost_ret (v := .agg #[.int .i64 0, .int .i64 0, .string ⟨#[]⟩, .slice none 0 0]) (by simp only [results, Try.results34]; simp [go_sem, h5.c0, h5.c1, h5.c2, h5.c3]) rfl (h5.bad HDN.out)
  · have h2 := H1.out.step hr2 hg2
    obtain ⟨x0, x1, x2, x3⟩ := h2.box.cells
    obtain ⟨f0, f1, f2, f3⟩ := h2.box.free
    obtain ⟨a1, cap1, y0, y1, y2, fy1, fy2, hal, hbl⟩ := h2.rr.cells
    have H2 := Lib.hid h2
    clear h2 hr2 hg2 hd
    go_wp2_with fail
    go_quiet (fail)
    go_wp2
    have h5 := (H2.out.drewN nq).toBad.res (.int .i64 0) (.int .i64 0) (.string ⟨#[]⟩) (.slice none 0 0)
    generalize ((((((w2.drewN nq).setCell ⟨R, 2, none⟩ (.bool true))).setCell ⟨w.heap.size, 0, none⟩ (.int .i64 0)).setCell ⟨w.heap.size, 1, none⟩ (.int .i64 0)).setCell ⟨w.heap.size, 2, none⟩ (.string ⟨#[]⟩)).setCell ⟨w.heap.size, 3, none⟩ (.slice none 0 0) = W5 at *
    exact bodyPost_ret (v := .agg #[.int .i64 0, .int .i64 0, .string ⟨#[]⟩, .slice none 0 0]) (by simp only [results, Try.results34]; simp [go_sem, h5.c0, h5.c1, h5.c2, h5.c3]) rfl (h5.bad HDN.out)

set_option maxRecDepth 100000 in
set_option maxHeartbeats 3200000 in
/-- a list that lies too deep -/
theorem rvalue_30 (bs : List UInt8) (at_ : Nat) (c : UInt8) (R : Nat) (w : World) (hr : RR w R bs at_ false) (hlt : at_ < bs.length) (hc : bs[at_] = c) (hx : c.toNat = 3)
    {n : Nat} {r1 : List UInt8} (hno : decLen (bs.drop (at_ + 1)) = some (n, r1)) :
    Calls Try.prog 34 #[.pointer (some ⟨R, 0, none⟩), .int .i64 16] w (RVal 0 bs at_ R w) := by
  have HDN : Hid (decV 0 (bs.drop at_) = none) := by unfold Hid; rw [List.drop_eq_getElem_cons hlt, hc, decV_30 _ _ hx]
  have HNO := Lib.hid hno
  clear hno
  have H0 := Lib.hid (rv0_of hr)
  have hRl := hr.lt
  have hnx := next_some R bs at_ false _ H0.out.rr hlt
  rw [hc, hx] at hnx
  have hne : ¬ w.heap.size = R := by omega
  have HNX := Lib.hid hnx
  clear hr hc hx hnx
  go_enter Try.func34, Try.ntmps34
  go_wp2_with fail
  refine (HNX.out).mono ?_
  rintro e w1 ⟨rfl, hr1, hg1⟩
  have h1 := H0.out.step hr1 hg1
  have H1 := Lib.hid h1
  clear h1 hr1 hg1 H0 HNX
  go_wp2_with fail
  refine (rnumber_any bs (at_ + 1) R w1 H1.out.rr).mono ?_
  rintro e w2 ⟨hg2, ⟨u, r, at', hd, rfl, hr2, hrest⟩ | ⟨hd, rfl, at', hr2⟩⟩
  · have h2 := H1.out.step hr2 hg2
    obtain ⟨x0, x1, x2, x3⟩ := h2.box.cells
    obtain ⟨f0, f1, f2, f3⟩ := h2.box.free
    obtain ⟨a1, cap1, y0, y1, y2, fy1, fy2, hal, hbl⟩ := h2.rr.cells
    have H2 := Lib.hid h2
    have hrl : r.length = bs.length - at' := by rw [← hrest, List.length_drop]
    have hle : u ≤ r.length := by
      rcases Nat.lt_or_ge r.length u with h | h
      · have h3 := HNO.out
        unfold decLen at h3
        rw [hd] at h3
        simp only at h3
        rw [if_neg (by omega)] at h3
        cases h3
      · exact h
    have kw1 : IntKind.i64.wrap ((bs.length : Int) - at') = bs.length - at' := IntWalk.i64_in _ (by omega)
    have kw2 : IntKind.u64.wrap ((bs.length : Int) - at') = bs.length - at' := by
      have := wrapU (bs.length - at') (by omega)
      rw [show ((bs.length - at' : Nat) : Int) = (bs.length : Int) - at' by omega] at this
      exact this
    have hdc : decide ((bs.length : Int) - at' < u) = false := by simp; omega
    clear h2 hr2 hg2 hd hrest hle hrl
    go_wp2_with fail
    go_quiet (fail)
    go_wp2
    have h5 := (H2.out.drewN nq).toBad.res (.int .i64 0) (.int .i64 0) (.string ⟨#[]⟩) (.slice none 0 0)
    generalize ((((((w2.drewN nq).setCell ⟨R, 2, none⟩ (.bool true))).setCell ⟨w.heap.size, 0, none⟩ (.int .i64 0)).setCell ⟨w.heap.size, 1, none⟩ (.int .i64 0)).setCell ⟨w.heap.size, 2, none⟩ (.string ⟨#[]⟩)).setCell ⟨w.heap.size, 3, none⟩ (.slice none 0 0) = W5 at *
    exact bodyPost_ret (v := .agg #[.int .i64 0, .int .i64 0, .string ⟨#[]⟩, .slice none 0 0]) (by simp only [results, Try.results34]; simp [go_sem, h5.c0, h5.c1, h5.c2, h5.c3]) rfl (h5.bad HDN.out)
  · exact absurd HNO.out (by unfold decLen; rw [hd]; simp)

/-- the state of the loop: k values have been read; or the reader is bad -/
structure RLst (d : Nat) (w : World) (R : Nat) (bs r1 : List UInt8) (k : Nat) (l : List V) (at_ : Nat) (a : Option Addr) (cap : Nat) (xs : List Value) (X8 : Nat) (wr : World) : Prop where
  len : l.length = k
  dec : decL (decV d) k r1 = some (l, bs.drop at_)
  own : wr.ownsRow (X8 + 1) 24 4 (.slice a k cap) k xs
  cells : CellsL (fun b => X8 + 1 ≤ b ∧ b < wr.heap.size ∧ (Value.slice a k cap).ownBlock ≠ some b) wr l xs
  box : Box4 wr X8 (.int .i64 3) (.int .i64 0) (.string ⟨#[]⟩) (.slice a k cap)
  rv : RV0 w R bs at_ false wr
  lt : X8 < wr.heap.size
  lt8 : w.heap.size < X8
theorem RLst.step {d : Nat} {w : World} {R : Nat} {bs r1 : List UInt8} {k : Nat} {l : List V} {at_ at' : Nat} {a : Option Addr} {cap : Nat} {xs : List Value} {X8 : Nat} {wr w4 w5 : World} {v : V} {c0 c1 c2 c3 : Value} {g5 cap5 : Nat}
    (h : RLst d w R bs r1 k l at_ a cap xs X8 wr) (hdec : decL (decV d) (k + 1) r1 = some (l ++ [v], bs.drop at'))
    (hrep : RepF (fun b => wr.drew.heap.size ≤ b ∧ b < w4.heap.size) w4 v (.agg #[c0, c1, c2, c3])) (hrd : RR w4 R bs at' false) (hg4 : wr.drew.grownBy w4 (some R))
    (hg5 : Grew (X8 + 1) 24 4 (w4.alloc (.cells #[c0, c1, c2, c3] 24)) (.slice a k cap) (.slice (some ⟨g5, 0, none⟩) (k + 1) cap5) (k + 1) (xs ++ [c0, c1, c2, c3]) w5)
    (hX5 : Box4 w5 X8 (.int .i64 3) (.int .i64 0) (.string ⟨#[]⟩) (.slice a k cap)) :
    RLst d w R bs r1 (k + 1) (l ++ [v]) at' (some ⟨g5, 0, none⟩) cap5 (xs ++ [c0, c1, c2, c3]) X8 (w5.setCell ⟨X8, 3, none⟩ (.slice (some ⟨g5, 0, none⟩) (k + 1) cap5)) := by
  have hs4 : wr.heap.size ≤ w4.heap.size := hg4.size
  have hs5 := hg5.by_.size
  rw [size_a1] at hs5
  have hlt := h.lt
  have hlt8 := h.lt8
  have hR := h.rv.rlt
  have hown : ∀ g, (Value.slice a k cap).ownBlock = some g → X8 + 1 ≤ g ∧ g < wr.heap.size := fun g hg => h.own.lt g hg
  have hnew := hg5.new g5 rfl
  rw [size_a1] at hnew
  have kept : ∀ b, X8 + 1 ≤ b → b < w4.heap.size → (Value.slice a k cap).ownBlock ≠ some b → (w5.setCell ⟨X8, 3, none⟩ (.slice (some ⟨g5, 0, none⟩) (k + 1) cap5)).heap[b]? = w4.heap[b]? := by
    intro b h1 h2 h3
    rw [setCell_other _ _ _ _ _ (by omega), hg5.other (by rw [size_a1]; omega) h3, Below.heap_alloc _ _ _ h2]
  have keptB : ∀ b, b < X8 → (w5.setCell ⟨X8, 3, none⟩ (.slice (some ⟨g5, 0, none⟩) (k + 1) cap5)).heap[b]? = w4.heap[b]? := by
    intro b h1
    rw [setCell_other _ _ _ _ _ (by omega), hg5.other (by rw [size_a1]; omega) (fun e => by have := (hown b e).1; omega), Below.heap_alloc _ _ _ (by omega)]
  have hg4' : wr.grownBy w4 (some R) := ⟨hg4.os, hg4.tape, hg4.output, hg4.size, hg4.block⟩
  have hrv := h.rv.step hrd hg4'
  refine ⟨by simp [h.len], hdec, ownsRow_setCell_below hg5.own (a := ⟨X8, 3, none⟩) (by show X8 < X8 + 1; omega) _, ?_, hX5.set3 _, ⟨hrd.keep (fun b hb => keptB b (by omega)), (keptB _ hlt8).trans hrv.box, ?_, hR⟩, by rw [size_set]; omega, hlt8⟩
  · refine CellsL.snoc ?_ (h.cells.keep ?_ ?_)
    · refine hrep.keep ?_ ?_
      · rintro b ⟨h1, h2⟩
        have h1' : wr.heap.size ≤ b := h1
        refine ⟨by omega, by rw [size_set]; omega, ?_⟩
        intro e
        have e' : g5 = b := by injection e
        rcases hnew with h3 | h3
        · omega
        · have := (hown g5 h3).2; omega
      · rintro b ⟨h1, h2⟩
        have h1' : wr.heap.size ≤ b := h1
        exact kept b (by omega) h2 (fun e => by have := (hown b e).2; omega)
    · rintro b ⟨h1, h2, h3⟩
      refine ⟨h1, by rw [size_set]; omega, ?_⟩
      intro e
      have e' : g5 = b := by injection e
      rcases hnew with h4 | h4
      · omega
      · exact h3 (e' ▸ h4)
    · rintro b ⟨h1, h2, h3⟩
      rw [kept b h1 (by omega) h3]
      exact hg4.block b h2 (by simp; omega)
  · have h2 := hrv.by_.andThen (World.grownBy_alloc w4 (.cells #[c0, c1, c2, c3] 24) none) (fun j hj => by cases hj)
    have h3 := h2.andThen hg5.by_ (fun j hj => .inl (by have := (hown j hj).1; omega))
    exact grownBy_set h3 _ _ _ (by omega)
/-- the reader is bad: what is left of the list does not matter -/
structure RBad (w : World) (R : Nat) (bs : List UInt8) (X8 : Nat) (wr : World) : Prop where
  rv : ∃ at_, RV0 w R bs at_ true wr
  box : ∃ a len cap, Box4 wr X8 (.int .i64 3) (.int .i64 0) (.string ⟨#[]⟩) (.slice a len cap)
  lt8 : w.heap.size < X8
theorem RLst.toBad {d : Nat} {w : World} {R : Nat} {bs r1 : List UInt8} {k : Nat} {l : List V} {at_ at' : Nat} {a : Option Addr} {cap : Nat} {xs : List Value} {X8 : Nat} {wr w4 w5 : World} {c0 c1 c2 c3 : Value} {g5 cap5 n5 : Nat} {ys : List Value}
    (h : RLst d w R bs r1 k l at_ a cap xs X8 wr) (hrd : RR w4 R bs at' true) (hg4 : wr.drew.grownBy w4 (some R))
    (hg5 : Grew (X8 + 1) 24 4 (w4.alloc (.cells #[c0, c1, c2, c3] 24)) (.slice a k cap) (.slice (some ⟨g5, 0, none⟩) n5 cap5) n5 ys w5)
    (hX5 : Box4 w5 X8 (.int .i64 3) (.int .i64 0) (.string ⟨#[]⟩) (.slice a k cap)) :
    RBad w R bs X8 (w5.setCell ⟨X8, 3, none⟩ (.slice (some ⟨g5, 0, none⟩) n5 cap5)) := by
  have hs4 : wr.heap.size ≤ w4.heap.size := hg4.size
  have hs5 := hg5.by_.size
  rw [size_a1] at hs5
  have hlt := h.lt
  have hlt8 := h.lt8
  have hR := h.rv.rlt
  have hown : ∀ g, (Value.slice a k cap).ownBlock = some g → X8 + 1 ≤ g ∧ g < wr.heap.size := fun g hg => h.own.lt g hg
  have keptB : ∀ b, b < X8 → (w5.setCell ⟨X8, 3, none⟩ (.slice (some ⟨g5, 0, none⟩) n5 cap5)).heap[b]? = w4.heap[b]? := by
    intro b h1
    rw [setCell_other _ _ _ _ _ (by omega), hg5.other (by rw [size_a1]; omega) (fun e => by have := (hown b e).1; omega), Below.heap_alloc _ _ _ (by omega)]
  have hg4' : wr.grownBy w4 (some R) := ⟨hg4.os, hg4.tape, hg4.output, hg4.size, hg4.block⟩
  have hrv := h.rv.step hrd hg4'
  refine ⟨⟨at', hrd.keep (fun b hb => keptB b (by omega)), (keptB _ hlt8).trans hrv.box, ?_, hR⟩, ⟨_, _, _, hX5.set3 _⟩, hlt8⟩
  have h2 := hrv.by_.andThen (World.grownBy_alloc w4 (.cells #[c0, c1, c2, c3] 24) none) (fun j hj => by cases hj)
  have h3 := h2.andThen hg5.by_ (fun j hj => .inl (by have := (hown j hj).1; omega))
  exact grownBy_set h3 _ _ _ (by omega)
theorem RLst.done {d : Nat} {w : World} {R : Nat} {bs r1 : List UInt8} {k : Nat} {l : List V} {at_ : Nat} {a : Option Addr} {cap : Nat} {xs : List Value} {X8 : Nat} {wr w' : World}
    (h : RLst d w R bs r1 k l at_ a cap xs X8 wr) (hk : k ≤ 1000000) (hs : wr.heap.size ≤ w'.heap.size) (hb : ∀ b, w.heap.size < b → b < wr.heap.size → w'.heap[b]? = wr.heap[b]?) :
    RepF (fun b => w.heap.size ≤ b ∧ b < w'.heap.size) w' (.mk 3 0 [] l) (.agg #[.int .i64 3, .int .i64 0, .string ⟨#[]⟩, .slice a k cap]) := by
  have ho := h.own
  have hl := h.len
  have h8 := h.lt8
  subst hl
  obtain ⟨h1, h2⟩ := own_repFL (G := fun b => w.heap.size < b ∧ b < wr.heap.size) ho h.cells (fun g h1 h2 => ⟨by omega, h2⟩) (fun b ⟨h1, h2, _⟩ => ⟨by omega, h2⟩)
  simp only [RepF]
  refine ⟨a, cap, rfl, by unfold i64R; omega, by unfold i64R; omega, by simp, h2, by omega, ?_⟩
  exact h1.keep (fun b ⟨h3, h4⟩ => ⟨by omega, by omega⟩) (fun b ⟨h3, h4⟩ => hb b h3 h4)

set_option maxRecDepth 100000 in
set_option maxHeartbeats 3200000 in
theorem rvalue_3 (d : Nat) (bs : List UInt8) (at_ : Nat) (c : UInt8) (R : Nat) (w : World) (hr : RR w R bs at_ false) (hlt : at_ < bs.length) (hc : bs[at_] = c) (hx : c.toNat = 3) (dep : Int) (hdep : 0 ≤ dep) (hdep2 : dep < 16)
    {n : Nat} {r1 : List UInt8} (hno : decLen (bs.drop (at_ + 1)) = some (n, r1))
    (ih : ∀ at_ w, RR w R bs at_ false → Calls Try.prog 34 #[.pointer (some ⟨R, 0, none⟩), .int .i64 (dep + 1)] w (RVal d bs at_ R w)) :
    Calls Try.prog 34 #[.pointer (some ⟨R, 0, none⟩), .int .i64 dep] w (RVal (d + 1) bs at_ R w) := by
  have HDV : Hid (decV (d + 1) (bs.drop at_) = (decL (decV d) n r1).map fun p => (.mk 3 0 [] p.1, p.2)) := by unfold Hid; rw [List.drop_eq_getElem_cons hlt, hc, decV_3 _ _ _ hx, decList_of hno]
  have HNO := Lib.hid hno
  have IH := Lib.hid ih
  clear hno ih
  have H0 := Lib.hid (rv0_of hr)
  have hRl := hr.lt
  have hnx := next_some R bs at_ false _ H0.out.rr hlt
  rw [hc, hx] at hnx
  have hne : ¬ w.heap.size = R := by omega
  have HNX := Lib.hid hnx
  clear hr hc hx hnx
  go_enter Try.func34, Try.ntmps34
  go_wp2_with fail
  refine (HNX.out).mono ?_
  rintro e w1 ⟨rfl, hr1, hg1⟩
  have h1 := H0.out.step hr1 hg1
  have H1 := Lib.hid h1
  clear h1 hr1 hg1 H0 HNX
  go_wp2_with fail
  refine (rnumber_any bs (at_ + 1) R w1 H1.out.rr).mono ?_
  rintro e w2 ⟨hg2, ⟨u, r, at', hd, rfl, hr2, hrest⟩ | ⟨hd, rfl, at', hr2⟩⟩
  · have h2 := H1.out.step hr2 hg2
    obtain ⟨x0, x1, x2, x3⟩ := h2.box.cells
    obtain ⟨f0, f1, f2, f3⟩ := h2.box.free
    obtain ⟨a1, cap1, y0, y1, y2, fy1, fy2, hal, hbl⟩ := h2.rr.cells
    have H2 := Lib.hid h2
    have hrl : r.length = bs.length - at' := by rw [← hrest, List.length_drop]
    obtain ⟨rfl, rfl, hle⟩ : u = n ∧ r = r1 ∧ u ≤ r.length := by
      have h3 := HNO.out
      unfold decLen at h3
      rw [hd] at h3
      simp only at h3
      split at h3
      · rename_i hle
        simp only [Option.some.injEq, Prod.mk.injEq] at h3
        exact ⟨h3.1, h3.2, hle⟩
      · cases h3
    have hul : u ≤ 1000000 := by omega
    have kw1 : IntKind.i64.wrap ((bs.length : Int) - at') = bs.length - at' := IntWalk.i64_in _ (by omega)
    have kw2 : IntKind.u64.wrap ((bs.length : Int) - at') = bs.length - at' := by
      have := wrapU (bs.length - at') (by omega)
      rw [show ((bs.length - at' : Nat) : Int) = (bs.length : Int) - at' by omega] at this
      exact this
    have hdc : decide ((bs.length : Int) - at' < u) = false := by simp; omega
    have g16 : (dep == 16) = false := by simp; omega
    have HRS := Lib.hid hrest
    clear h2 hr2 hg2 hd hrest hle hrl
    go_wp2_with fail
    go_quiet (fail)
    clear kw1 kw2 hdc x0 x1 x2 x3 f0 f1 f2 f3 y0 y1 y2 fy1 fy2
    have h3 := H2.out.drewN nq
    generalize w2.drewN nq = W2 at *
    clear H2
    have hlt2 : w.heap.size < W2.heap.size := (Array.getElem?_eq_some_iff.1 h3.box).1
    have hst : RLst d w R bs r 0 [] at' none 0 [] W2.heap.size (W2.alloc (.cells #[.int .i64 3, .int .i64 0, .string ⟨#[]⟩, .slice none 0 0] 24)) :=
      ⟨rfl, by rw [HRS.out]; rfl, World.ownsRow_nil _ _ _ _, rfl, Box4.new _ _ _ _ _, ⟨h3.rr.alloc _, (Below.heap_alloc _ _ _ hlt2).trans h3.box, h3.by_.andThen (World.grownBy_alloc _ _ none) (fun j hj => by cases hj), h3.rlt⟩, by rw [size_a1]; exact Nat.lt_succ_self _, hlt2⟩
    have HST := Lib.hid hst
    obtain ⟨x0, x1, x2, x3⟩ := h3.box.cells
    obtain ⟨f0, f1, f2, f3⟩ := h3.box.free
    obtain ⟨a1, cap1, y0, y1, y2, fy1, fy2, hal, hbl⟩ := h3.rr.cells
    clear hst h3
    go_wp2
    clear x0 x1 x2 x3 f0 f1 f2 f3 y0 y1 y2 fy1 fy2
    go_loopw [9] (fun i wr => ∃ k : Nat, k ≤ u ∧ i = .int .u64 k ∧ ((∃ l at' a cap xs, RLst d w R bs r k l at' a cap xs W2.heap.size wr) ∨ (RBad w R bs W2.heap.size wr ∧ Hid (decL (decV d) u r = none)))) (fun i _ => u - (intOf i).toNat)
    case atStart => exact ⟨0, Nat.zero_le _, rfl, .inl ⟨[], at', none, 0, [], HST.out⟩⟩
    case round =>
      obtain ⟨k, hk, rfl, ⟨l, at2, a, cap, xs, hs⟩ | ⟨hbad, hdn⟩⟩ := hrel
      · have HS := Lib.hid hs
        obtain ⟨x0, x1, x2, x3⟩ := hs.box.cells
        obtain ⟨f0, f1, f2, f3⟩ := hs.box.free
        obtain ⟨a1, cap1, y0, y1, y2, fy1, fy2, hal, hbl⟩ := hs.rv.rr.cells
        have hltr := hs.lt
        have hlt8 := hs.lt8
        by_cases hlt : k < u
        · have kw : IntKind.i64.wrap (dep + 1) = dep + 1 := IntWalk.i64_in _ (by omega)
          have HRDd : Hid (RR wr.drew R bs at2 false) := HS.out.rv.rr
          have HBXd : Hid (Box4 wr.drew W2.heap.size (.int .i64 3) (.int .i64 0) (.string ⟨#[]⟩) (.slice a k cap)) := HS.out.box
          have hXB : some W2.heap.size ≠ some R := by simp; omega
          have hov : ∀ g, (Value.slice a k cap).ownBlock = some g → W2.heap.size + 1 ≤ g := fun g hg => (HS.out.own.lt g hg).1
          have K3 := Lib.hid (maxLen_le (n := k + 1) (by omega))
          have K4 := Lib.hid (show (k + 1) * 56 ≤ 140737488355328 by omega)
          clear hs
          cases hdv : decV d (bs.drop at2) with
          | none =>
            have HP : Hid (∀ W, RR W R bs at2 false → Calls Try.prog 34 #[.pointer (some ⟨R, 0, none⟩), .int .i64 (dep + 1)] W fun e w' => ∃ k0 n0 s0 a0 len0 cap0 at', e = .returned (.agg #[.int .i64 k0, .int .i64 n0, .string s0, .slice a0 len0 cap0]) ∧ RR w' R bs at' true ∧ W.grownBy w' (some R)) := fun W h => (IH.out at2 W h).mono (by
              rintro e w' ⟨h1, ⟨v, r, c, at', h2, _⟩ | ⟨_, k0, n0, s0, a0, len0, cap0, at', rfl, h3⟩⟩
              · rw [hdv] at h2; cases h2
              · exact ⟨k0, n0, s0, a0, len0, cap0, at', rfl, h3, h1⟩)
            have HDN := Lib.hid (decL_none HS.out.dec hdv hlt)
            clear hdv
            go_wp2_with fail
            go_region_law (first
              | (go_simp; go_at_call 34; ((with_reducible refine (HP.out _ HRDd.out).mono ?_)); rintro e w4 ⟨k0, n0, s0, a0, len0, cap0, at4, rfl, hrd4, hg4⟩; have hX4 := HBXd.out.kept hg4 hXB; obtain ⟨z0, z1, z2, z3⟩ := hX4.cells; have HO4 := Lib.hid (own_keptB HS.out.own (by omega) hg4); have hsz4 : W2.heap.size + 1 ≤ w4.heap.size := Nat.le_trans hltr hg4.size; have hsz4x : W2.heap.size < w4.heap.size := hsz4)
              | (refine step_app (by rfl) _ _ (by rfl) elemV (W2.heap.size + 1) (.slice a k cap) k xs (by rfl) (HO4.out.alloc _) (.slice (some ⟨w4.heap.size, 0, none⟩) 1 1) 1 [.int .i64 k0, .int .i64 n0, .string s0, .slice a0 len0 cap0] (by rfl) (Source.cells _ _ _ _ rfl rfl (World.news_of_block (cs := #[.int .i64 k0, .int .i64 n0, .string s0, .slice a0 len0 cap0]) (t := 24) (fr := (0, 0)) (heap_alloc_new w4 _)) (one4 _ _ _ _ _ _)) (.inl rfl) K3.out K4.out (le_alloc hsz4 _) ?_; intro v5 w5 hg5; have hX5 := box_grew hX4 hg5 hov; obtain ⟨q0, q1, q2, q3⟩ := hX5.cells; obtain ⟨qf0, qf1, qf2, qf3⟩ := hX5.free; obtain ⟨g5, cap5, rfl, hg51, hg52⟩ := hg5.own.form (Nat.succ_pos _)))
            all_goals
              go_wp2
              go_roundw
              case rel => exact ⟨k + 1, by omega, by go_num, .inr ⟨HS.out.toBad hrd4 hg4 hg5 hX5, HDN.out⟩⟩
              case measure => simp [intOf]; omega
          | some p =>
            obtain ⟨v, r'⟩ := p
            have HQ : Hid (∀ W, RR W R bs at2 false → Calls Try.prog 34 #[.pointer (some ⟨R, 0, none⟩), .int .i64 (dep + 1)] W fun e w' => ∃ c at', e = .returned c ∧ bs.drop at' = r' ∧ RepF (fun b => W.heap.size ≤ b ∧ b < w'.heap.size) w' v c ∧ RR w' R bs at' false ∧ W.grownBy w' (some R)) := fun W h => (IH.out at2 W h).mono (by
              rintro e w' ⟨h1, ⟨v, r, c, at', h2, rfl, h3, h4, h5⟩ | ⟨h2, _⟩⟩
              · rw [hdv] at h2; cases h2; exact ⟨c, at', rfl, h5, h3, h4, h1⟩
              · rw [hdv] at h2; cases h2)
            have HDO := Lib.hid (decL_one HS.out.dec hdv)
            clear hdv
            go_wp2_with fail
            go_region_law (first
              | (go_simp; go_at_call 34; ((with_reducible refine (HQ.out _ HRDd.out).mono ?_)); rintro e w4 ⟨cc, at4, rfl, hdr4, hrep4, hrd4, hg4⟩; obtain ⟨k0, n0, s0, a0, len0, cap0, rfl⟩ := hrep4.form; have hX4 := HBXd.out.kept hg4 hXB; obtain ⟨z0, z1, z2, z3⟩ := hX4.cells; have HO4 := Lib.hid (own_keptB HS.out.own (by omega) hg4); have hsz4 : W2.heap.size + 1 ≤ w4.heap.size := Nat.le_trans hltr hg4.size; have hsz4x : W2.heap.size < w4.heap.size := hsz4)
              | (refine step_app (by rfl) _ _ (by rfl) elemV (W2.heap.size + 1) (.slice a k cap) k xs (by rfl) (HO4.out.alloc _) (.slice (some ⟨w4.heap.size, 0, none⟩) 1 1) 1 [.int .i64 k0, .int .i64 n0, .string s0, .slice a0 len0 cap0] (by rfl) (Source.cells _ _ _ _ rfl rfl (World.news_of_block (cs := #[.int .i64 k0, .int .i64 n0, .string s0, .slice a0 len0 cap0]) (t := 24) (fr := (0, 0)) (heap_alloc_new w4 _)) (one4 _ _ _ _ _ _)) (.inl rfl) K3.out K4.out (le_alloc hsz4 _) ?_; intro v5 w5 hg5; have hX5 := box_grew hX4 hg5 hov; obtain ⟨q0, q1, q2, q3⟩ := hX5.cells; obtain ⟨qf0, qf1, qf2, qf3⟩ := hX5.free; obtain ⟨g5, cap5, rfl, hg51, hg52⟩ := hg5.own.form (Nat.succ_pos _)))
            all_goals
              go_wp2
              go_roundw
              case rel => exact ⟨k + 1, by omega, by go_num, .inl ⟨l ++ [v], at4, some ⟨g5, 0, none⟩, cap5, _, HS.out.step (by rw [hdr4]; exact HDO.out) hrep4 hrd4 hg4 hg5 hX5⟩⟩
              case measure => simp [intOf]; omega
        · have hku : k = u := by omega
          have hd1 : decide (k < u) = false := by simp; omega
          have hrv := hs.rv
          obtain ⟨b0, b1, b2, b3⟩ := hs.rv.box.cells
          obtain ⟨bf0, bf1, bf2, bf3⟩ := hs.rv.box.free
          have h5 := hrv.res (.int .i64 3) (.int .i64 0) (.string ⟨#[]⟩) (.slice a k cap)
          have hrep := HS.out.done (w' := ((((wr.setCell ⟨w.heap.size, 0, none⟩ (.int .i64 3)).setCell ⟨w.heap.size, 1, none⟩ (.int .i64 0)).setCell ⟨w.heap.size, 2, none⟩ (.string ⟨#[]⟩)).setCell ⟨w.heap.size, 3, none⟩ (.slice a k cap))) (by omega) (by simp [World.setCell]) (fun b h1 h2 => by rw [setCell_other _ _ _ _ _ (by omega), setCell_other _ _ _ _ _ (by omega), setCell_other _ _ _ _ _ (by omega), setCell_other _ _ _ _ _ (by omega)])
          have H5 := Lib.hid h5
          have HREP := Lib.hid hrep
          have HKU := Lib.hid hku
          clear hs hrv h5 hrep hku
          go_wp2
          have h5 := H5.out
          have hrep := HREP.out
          clear H5 HREP
          generalize (((wr.setCell ⟨w.heap.size, 0, none⟩ (.int .i64 3)).setCell ⟨w.heap.size, 1, none⟩ (.int .i64 0)).setCell ⟨w.heap.size, 2, none⟩ (.string ⟨#[]⟩)).setCell ⟨w.heap.size, 3, none⟩ (.slice a k cap) = W5 at *
          refine bodyPost_ret (v := .agg #[.int .i64 3, .int .i64 0, .string ⟨#[]⟩, .slice a k cap]) (by simp only [results, Try.results34]; simp [go_sem, h5.c0, h5.c1, h5.c2, h5.c3]) rfl ?_
          refine ⟨h5.by_, .inl ⟨.mk 3 0 [] l, bs.drop at2, _, at2, ?_, rfl, hrep, h5.rr, rfl⟩⟩
          rw [HDV.out, ← HKU.out, HS.out.dec]; rfl
      · obtain ⟨⟨at2, hrv⟩, ⟨ab, lb, cb, hbx⟩, hlt8⟩ := hbad
        obtain ⟨x0, x1, x2, x3⟩ := hbx.cells
        obtain ⟨b0, b1, b2, b3⟩ := hrv.box.cells
        obtain ⟨bf0, bf1, bf2, bf3⟩ := hrv.box.free
        obtain ⟨a1, cap1, y0, y1, y2, fy1, fy2, hal, hbl⟩ := hrv.rr.cells
        by_cases hlt : k < u
        · skip
          go_wp2
          have h5 := hrv.res (.int .i64 3) (.int .i64 0) (.string ⟨#[]⟩) (.slice ab lb cb)
          generalize (((wr.setCell ⟨w.heap.size, 0, none⟩ (.int .i64 3)).setCell ⟨w.heap.size, 1, none⟩ (.int .i64 0)).setCell ⟨w.heap.size, 2, none⟩ (.string ⟨#[]⟩)).setCell ⟨w.heap.size, 3, none⟩ (.slice ab lb cb) = W5 at *
          exact bodyPost_ret (v := .agg #[.int .i64 3, .int .i64 0, .string ⟨#[]⟩, .slice ab lb cb]) (by simp only [results, Try.results34]; simp [go_sem, h5.c0, h5.c1, h5.c2, h5.c3]) rfl (h5.bad (by rw [HDV.out, hdn.out]; rfl))
        · have hd1 : decide (k < u) = false := by simp; omega
          go_wp2
          have h5 := hrv.res (.int .i64 3) (.int .i64 0) (.string ⟨#[]⟩) (.slice ab lb cb)
          generalize (((wr.setCell ⟨w.heap.size, 0, none⟩ (.int .i64 3)).setCell ⟨w.heap.size, 1, none⟩ (.int .i64 0)).setCell ⟨w.heap.size, 2, none⟩ (.string ⟨#[]⟩)).setCell ⟨w.heap.size, 3, none⟩ (.slice ab lb cb) = W5 at *
          exact bodyPost_ret (v := .agg #[.int .i64 3, .int .i64 0, .string ⟨#[]⟩, .slice ab lb cb]) (by simp only [results, Try.results34]; simp [go_sem, h5.c0, h5.c1, h5.c2, h5.c3]) rfl (h5.bad (by rw [HDV.out, hdn.out]; rfl))
  · exact absurd HNO.out (by unfold decLen; rw [hd]; simp)

/-- the reference's value, at every depth -/
theorem rvalue_any (bs : List UInt8) (R : Nat) : ∀ (d : Nat), d ≤ 16 → ∀ (at_ : Nat) (w : World), RR w R bs at_ false → Calls Try.prog 34 #[.pointer (some ⟨R, 0, none⟩), .int .i64 (16 - d)] w (RVal d bs at_ R w) := by
  intro d
  induction d with
  | zero =>
    intro _ at_ w hr
    have hal : at_ ≤ bs.length := by obtain ⟨_, _, h⟩ := hr; exact h.2.2.2.2.2
    by_cases hend : at_ = bs.length
    · subst hend; exact rvalue_end 0 bs R w hr _
    · have hlt : at_ < bs.length := by omega
      obtain ⟨c, hc⟩ : ∃ c, bs[at_] = c := ⟨_, rfl⟩
      by_cases h1 : c.toNat = 1
      · exact rvalue_1 0 bs at_ c R w hr hlt hc h1 _
      · by_cases h2 : c.toNat = 2
        · exact rvalue_2 0 bs at_ c R w hr hlt hc h2 _
        · by_cases h3 : c.toNat = 3
          · cases hd : decLen (bs.drop (at_ + 1)) with
            | none => exact rvalue_3no 0 bs at_ c R w hr hlt hc h3 _ hd (by rw [List.drop_eq_getElem_cons hlt, hc, decV_30 _ _ h3])
            | some p => obtain ⟨n, r1⟩ := p; exact rvalue_30 bs at_ c R w hr hlt hc h3 hd
          · exact rvalue_o 0 bs at_ c [] R w hr hlt hc h1 h2 h3 _
  | succ d ih =>
    intro hd16 at_ w hr
    have hal : at_ ≤ bs.length := by obtain ⟨_, _, h⟩ := hr; exact h.2.2.2.2.2
    by_cases hend : at_ = bs.length
    · subst hend; exact rvalue_end _ bs R w hr _
    · have hlt : at_ < bs.length := by omega
      obtain ⟨c, hc⟩ : ∃ c, bs[at_] = c := ⟨_, rfl⟩
      by_cases h1 : c.toNat = 1
      · exact rvalue_1 _ bs at_ c R w hr hlt hc h1 _
      · by_cases h2 : c.toNat = 2
        · exact rvalue_2 _ bs at_ c R w hr hlt hc h2 _
        · by_cases h3 : c.toNat = 3
          · cases hd : decLen (bs.drop (at_ + 1)) with
            | none => exact rvalue_3no _ bs at_ c R w hr hlt hc h3 _ hd (by rw [List.drop_eq_getElem_cons hlt, hc, decV_3 _ _ _ h3, decList_none hd])
            | some p =>
              obtain ⟨n, r1⟩ := p
              refine rvalue_3 d bs at_ c R w hr hlt hc h3 _ (by omega) (by omega) hd fun at2 w h => ?_
              have e : (16 - ((d + 1 : Nat) : Int)) + 1 = 16 - (d : Int) := by omega
              rw [e]
              exact ih (by omega) at2 w h
          · exact rvalue_o _ bs at_ c [] R w hr hlt hc h1 h2 h3 _
end Go.Proofs.Ytedkoifbjmemdaa
