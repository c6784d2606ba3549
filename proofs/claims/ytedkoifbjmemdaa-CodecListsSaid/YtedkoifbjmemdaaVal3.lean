/- codec: the reader's lists -/
import Derived.Test.YtedkoifbjmemdaaVal
import Derived.Deep.RegionLaw
namespace Go.Proofs.Ytedkoifbjmemdaa
open Go.RowKit
attribute [local go_sem ↓] Go.wp_at_zero Go.wp_at_succ
theorem infoV : (Try.prog.info? 24).map (fun i => (i.zero, i.size, i.bytes)) = some (some (.agg #[.int .i64 0, .int .i64 0, .string ⟨#[]⟩, .slice none 0 0]), 4, 56) := by kernel_rfl
theorem elemV : Elem Try.prog 22 24 (.agg #[.int .i64 0, .int .i64 0, .string ⟨#[]⟩, .slice none 0 0]) 4 56 := ⟨Try.underlying22, infoV, rfl, by decide, fun h => by cases h⟩
/-- how decoding a list goes on -/
theorem decL_go {f : List UInt8 → Option (V × List UInt8)} : ∀ (k n : Nat) (r rs : List UInt8) (l : List V), decL f k r = some (l, rs) → decL f (k + n) r = (decL f n rs).map fun p => (l ++ p.1, p.2)
  | 0, n, r, rs, l, h => by
    simp only [decL, Option.some.injEq, Prod.mk.injEq] at h
    obtain ⟨rfl, rfl⟩ := h
    rw [Nat.zero_add]
    cases decL f n r with
    | none => rfl
    | some p => rfl
  | k + 1, n, r, rs, l, h => by
    rw [Nat.succ_add]
    simp only [decL] at h ⊢
    cases hf : f r with
    | none => rw [hf] at h; cases h
    | some p =>
      obtain ⟨v, r1⟩ := p
      rw [hf] at h
      simp only at h ⊢
      cases hd : decL f k r1 with
      | none => rw [hd] at h; cases h
      | some q =>
        obtain ⟨l', r2⟩ := q
        rw [hd] at h
        simp only [Option.some.injEq, Prod.mk.injEq] at h
        obtain ⟨rfl, rfl⟩ := h
        rw [decL_go k n r1 r2 l' hd]
        cases decL f n r2 with
        | none => rfl
        | some p => rfl
theorem decL_one {f : List UInt8 → Option (V × List UInt8)} {k : Nat} {r rs r' : List UInt8} {l : List V} {v : V} (h : decL f k r = some (l, rs)) (hv : f rs = some (v, r')) : decL f (k + 1) r = some (l ++ [v], r') := by
  rw [decL_go k 1 r rs l h]
  simp [decL, hv]
theorem decL_none {f : List UInt8 → Option (V × List UInt8)} {k n : Nat} {r rs : List UInt8} {l : List V} (h : decL f k r = some (l, rs)) (hv : f rs = none) (hn : k < n) : decL f n r = none := by
  obtain ⟨m, rfl⟩ : ∃ m, n = k + (m + 1) := ⟨n - k - 1, by omega⟩
  rw [decL_go k (m + 1) r rs l h]
  simp [decL, hv]
theorem decList_of {f : List UInt8 → Option (V × List UInt8)} {r r1 : List UInt8} {n : Nat} (h : decLen r = some (n, r1)) : decList f r = (decL f n r1).map fun p => (.mk 3 0 [] p.1, p.2) := by
  unfold decLen at h
  unfold decList
  cases hd : decNum r with
  | none => rw [hd] at h; cases h
  | some p =>
    obtain ⟨n', r''⟩ := p
    rw [hd] at h
    simp only at h ⊢
    split at h
    · rename_i hle
      simp only [Option.some.injEq, Prod.mk.injEq] at h
      obtain ⟨rfl, rfl⟩ := h
      rw [if_pos hle]
      cases decL f n' r'' with
      | none => rfl
      | some p => rfl
    · cases h
theorem decList_none {f : List UInt8 → Option (V × List UInt8)} {r : List UInt8} (h : decLen r = none) : decList f r = none := by
  unfold decLen at h
  unfold decList
  cases hd : decNum r with
  | none => rfl
  | some p =>
    obtain ⟨n', r''⟩ := p
    rw [hd] at h
    simp only at h ⊢
    split at h
    · cases h
    · rename_i hle; rw [if_neg hle]
/-- the state of the loop: k values have been read -/
structure Lst (d : Nat) (w : World) (B : Nat) (r1 : List UInt8) (k : Nat) (l : List V) (rs : List UInt8) (a : Option Addr) (cap : Nat) (xs : List Value) (wr : World) : Prop where
  len : l.length = k
  dec : decL (decV d) k r1 = some (l, rs)
  own : wr.ownsRow (w.heap.size + 1) 24 4 (.slice a k cap) k xs
  cells : CellsL (fun b => w.heap.size + 1 ≤ b ∧ b < wr.heap.size ∧ (Value.slice a k cap).ownBlock ≠ some b) wr l xs
  box : Box4 wr w.heap.size (.int .i64 3) (.int .i64 0) (.string ⟨#[]⟩) (.slice a k cap)
  rd : Rd wr B rs
  by_ : w.grownBy wr (some B)
  lt : w.heap.size < wr.heap.size
  le : rs.length ≤ r1.length

theorem own_keptB {wr w4 : World} {base B : Nat} {e : TypeId} {size n : Nat} {v : Value} {xs : List Value} (h : wr.ownsRow base e size v n xs) (hB : B < base) (hg : wr.drew.grownBy w4 (some B)) : w4.ownsRow base e size v n xs :=
  h.drew.kept hg (by
    cases hv : v.ownBlock with
    | none => exact .inl rfl
    | some g => right; intro e; injection e with e; have := (h.lt g hv).1; omega)
theorem one4 (k0 n0 : Int) (s0 : ByteArray) (a0 : Option Addr) (len0 cap0 : Nat) : ∀ u ∈ [Value.int .i64 k0, .int .i64 n0, .string s0, .slice a0 len0 cap0], u.oneCell' = true := by
  intro u hu
  simp only [List.mem_cons, List.not_mem_nil, or_false] at hu
  rcases hu with rfl | rfl | rfl | rfl <;> rfl
theorem box_grew {W w5 : World} {X : Nat} {o : Obj} {c0 c1 c2 c3 v v5 : Value} {n : Nat} {xs : List Value} (h : Box4 W X c0 c1 c2 c3) (hg : Grew (X + 1) 24 4 (W.alloc o) v v5 n xs w5) (hv : ∀ g, v.ownBlock = some g → X + 1 ≤ g) : Box4 w5 X c0 c1 c2 c3 := by
  have hX : X < W.heap.size := (Array.getElem?_eq_some_iff.1 h).1
  have h1 : Box4 (W.alloc o) X c0 c1 c2 c3 := (Below.heap_alloc W o X hX).trans h
  exact (hg.other (by rw [size_a1]; omega) (fun e => by have := hv X e; omega)).trans h1

theorem setCell_other (W : World) (X o : Nat) (u : Value) (b : Nat) (h : b ≠ X) : (W.setCell ⟨X, o, none⟩ u).heap[b]? = W.heap[b]? := Below.heap_setCell W ⟨X, o, none⟩ u b h
theorem size_set (W : World) (a : Addr) (u : Value) : (W.setCell a u).heap.size = W.heap.size := by simp [World.setCell]
theorem Lst.step {d : Nat} {w : World} {B : Nat} {r1 : List UInt8} {k : Nat} {l : List V} {rs r' : List UInt8} {a : Option Addr} {cap : Nat} {xs : List Value} {wr w4 w5 : World} {v : V} {c0 c1 c2 c3 : Value} {g5 cap5 : Nat}
    (h : Lst d w B r1 k l rs a cap xs wr) (hB : B < w.heap.size) (hdec : decL (decV d) (k + 1) r1 = some (l ++ [v], r')) (hle : r'.length ≤ rs.length)
    (hrep : RepF (fun b => wr.drew.heap.size ≤ b ∧ b < w4.heap.size) w4 v (.agg #[c0, c1, c2, c3])) (hrd : Rd w4 B r') (hg4 : wr.drew.grownBy w4 (some B))
    (hg5 : Grew (w.heap.size + 1) 24 4 (w4.alloc (.cells #[c0, c1, c2, c3] 24)) (.slice a k cap) (.slice (some ⟨g5, 0, none⟩) (k + 1) cap5) (k + 1) (xs ++ [c0, c1, c2, c3]) w5)
    (hX5 : Box4 w5 w.heap.size (.int .i64 3) (.int .i64 0) (.string ⟨#[]⟩) (.slice a k cap)) :
    Lst d w B r1 (k + 1) (l ++ [v]) r' (some ⟨g5, 0, none⟩) cap5 (xs ++ [c0, c1, c2, c3]) (w5.setCell ⟨w.heap.size, 3, none⟩ (.slice (some ⟨g5, 0, none⟩) (k + 1) cap5)) := by
  have hs4 : wr.heap.size ≤ w4.heap.size := hg4.size
  have hs5 := hg5.by_.size
  rw [size_a1] at hs5
  have hlt := h.lt
  have hown : ∀ g, (Value.slice a k cap).ownBlock = some g → w.heap.size + 1 ≤ g ∧ g < wr.heap.size := fun g hg => h.own.lt g hg
  have hnew := hg5.new g5 rfl
  rw [size_a1] at hnew
  have kept : ∀ b, w.heap.size + 1 ≤ b → b < w4.heap.size → (Value.slice a k cap).ownBlock ≠ some b → (w5.setCell ⟨w.heap.size, 3, none⟩ (.slice (some ⟨g5, 0, none⟩) (k + 1) cap5)).heap[b]? = w4.heap[b]? := by
    intro b h1 h2 h3
    rw [setCell_other _ _ _ _ _ (by omega), hg5.other (by rw [size_a1]; omega) h3, Below.heap_alloc _ _ _ h2]
  have keptB : ∀ b, b ≤ B → (w5.setCell ⟨w.heap.size, 3, none⟩ (.slice (some ⟨g5, 0, none⟩) (k + 1) cap5)).heap[b]? = w4.heap[b]? := by
    intro b h1
    rw [setCell_other _ _ _ _ _ (by omega), hg5.other (by rw [size_a1]; omega) (fun e => by have := (hown b e).1; omega), Below.heap_alloc _ _ _ (by omega)]
  refine ⟨by simp [h.len], hdec, ownsRow_setCell_below hg5.own (a := ⟨w.heap.size, 3, none⟩) (by show w.heap.size < w.heap.size + 1; omega) _, ?_, hX5.set3 _, hrd.keep keptB, ?_, by rw [size_set]; omega, Nat.le_trans hle h.le⟩
  · refine CellsL.snoc ?_ (h.cells.keep ?_ ?_)
    · refine hrep.keep ?_ ?_
      · rintro b ⟨h1, h2⟩
        have h1' : wr.heap.size ≤ b := h1
        refine ⟨by omega, by rw [size_set]; omega, ?_⟩
        intro e
        have e' : g5 = b := by injection e
        rcases hnew with h3 | h3
        · omega
        · have := (hown g5 h3).2; omega
      · rintro b ⟨h1, h2⟩
        have h1' : wr.heap.size ≤ b := h1
        exact kept b (by omega) h2 (fun e => by have := (hown b e).2; omega)
    · rintro b ⟨h1, h2, h3⟩
      refine ⟨h1, by rw [size_set]; omega, ?_⟩
      intro e
      have e' : g5 = b := by injection e
      rcases hnew with h4 | h4
      · omega
      · exact h3 (e' ▸ h4)
    · rintro b ⟨h1, h2, h3⟩
      rw [kept b h1 (by omega) h3]
      exact hg4.block b h2 (by simp; omega)
  · have h1 : w.grownBy w4 (some B) := h.by_.andThen (⟨hg4.os, hg4.tape, hg4.output, hg4.size, hg4.block⟩ : wr.grownBy w4 (some B)) (fun j hj => .inr hj)
    have h2 := h1.andThen (World.grownBy_alloc w4 (.cells #[c0, c1, c2, c3] 24) none) (fun j hj => by cases hj)
    have h3 := h2.andThen hg5.by_ (fun j hj => .inl (by have := (hown j hj).1; omega))
    exact grownBy_set h3 _ _ _ (Nat.le_refl _)
theorem Lst.done {d : Nat} {w : World} {B : Nat} {r1 : List UInt8} {k : Nat} {l : List V} {rs : List UInt8} {a : Option Addr} {cap : Nat} {xs : List Value} {wr w' : World}
    (h : Lst d w B r1 k l rs a cap xs wr) (hk : k ≤ 1000000) (hs : wr.heap.size ≤ w'.heap.size) (hb : ∀ b, w.heap.size < b → b < wr.heap.size → w'.heap[b]? = wr.heap[b]?) :
    RepF (fun b => w.heap.size ≤ b ∧ b < w'.heap.size) w' (.mk 3 0 [] l) (.agg #[.int .i64 3, .int .i64 0, .string ⟨#[]⟩, .slice a k cap]) := by
  have ho := h.own
  have hl := h.len
  subst hl
  obtain ⟨h1, h2⟩ := own_repFL (G := fun b => w.heap.size < b ∧ b < wr.heap.size) ho h.cells (fun g h1 h2 => ⟨by omega, h2⟩) (fun b ⟨h1, h2, _⟩ => ⟨by omega, h2⟩)
  simp only [RepF]
  refine ⟨a, cap, rfl, by unfold i64R; omega, by unfold i64R; omega, by simp, h2, by omega, ?_⟩
  exact h1.keep (fun b ⟨h3, h4⟩ => ⟨by omega, by omega⟩) (fun b ⟨h3, h4⟩ => hb b h3 h4)

set_option maxRecDepth 100000 in
set_option maxHeartbeats 3200000 in
theorem value_3 (d : Nat) (c : UInt8) (r : List UInt8) (B : Nat) (w : World) (hr : Rd w B (c :: r)) (hx : c.toNat = 3) (dep : Int) (hdep : 0 ≤ dep) (hdep2 : dep < 16)
    (ih : ∀ bs w, Rd w B bs → Calls Try.prog 32 #[.pointer (some ⟨B, 0, none⟩), .int .i64 (dep + 1)] w (ValRd d bs B w)) :
    Calls Try.prog 32 #[.pointer (some ⟨B, 0, none⟩), .int .i64 dep] w (ValRd (d + 1) (c :: r) B w) := by
  have HDV := Lib.hid (decV_3 d c r hx)
  have HW : Hid (∀ p w, Calls Try.prog 33 #[p, .bool true] w fun e w' => e = .returned (.tuple #[]) ∧ w = w') := want_yes
  have IH := Lib.hid ih
  have HXE := Lib.hid hx
  clear hx ih
  have hBl := hr.lt
  have HR := Lib.hid (hr.alloc (.cells #[.int .i64 0, .int .i64 0, .string ⟨#[]⟩, .slice none 0 0] 24))
  have hX := Box4.new w (.int .i64 0) (.int .i64 0) (.string ⟨#[]⟩) (.slice none 0 0)
  have HX := Lib.hid hX
  clear hr hX
  go_enter Try.func32, Try.ntmps32
  go_wp2_with fail
  refine (take_rd HR.out 1 (by simp)).mono ?_
  rintro e w1 ⟨a1, rfl, hby, _, hrd1, hgr1⟩
  obtain ⟨b1, off1, rfl, hc1⟩ := hby.resolve_left (by simp)
  have hc0 := hc1 0 (by simp)
  simp only [List.take_succ_cons, List.take_zero, List.getElem_cons_zero, Nat.add_zero, byteV, HXE.out] at hc0
  simp only [List.drop_succ_cons, List.drop_zero] at hrd1
  have hX1 := HX.out.kept hgr1 (by simp; omega)
  obtain ⟨x0, x1, x2, x3⟩ := hX1.cells
  obtain ⟨f0, f1, f2, f3⟩ := hX1.free
  have hat := at1_of 3 hBl hgr1 hrd1
  have HAT := Lib.hid hat
  clear hby hc1 hrd1 hX1 hat hgr1 HX HR
  go_wp2_with fail
  generalize w1.setCell ⟨w.heap.size, 0, none⟩ (.int .i64 3) = W2 at *
  clear x0 x1 x2 x3 f0 f1 f2 f3 hc0
  with_reducible refine (HW.out _ _).mono ?_
  rintro e w3 ⟨rfl, rfl⟩
  go_wp2_with fail
  refine (length_any r B W2 HAT.out.rd).mono ?_
  rintro e w3 ⟨hg3, ⟨n, r1, hd, hn, hrb, rfl, hrd3⟩ | ⟨hd, rfl⟩⟩
  · have hX3 := HAT.out.box.kept hg3 (by simp; omega)
    have hlt3 : w.heap.size < w3.heap.size := Nat.lt_of_lt_of_le HAT.out.lt hg3.size
    have hst : Lst d w B r1 0 [] r1 none 0 [] w3 := ⟨rfl, rfl, World.ownsRow_nil _ _ _ _, rfl, hX3, hrd3, HAT.out.by_.andThen hg3 (fun j hj => .inr hj), hlt3, Nat.le_refl _⟩
    have HST := Lib.hid hst
    have HD := Lib.hid (decList_of (f := decV d) hd)
    have hrl := hrd3.len
    clear hX3 hrd3 hd hg3 hst
    go_wp2
    go_loopw [37] (fun i wr => ∃ (k : Nat) (l : List V) (rs : List UInt8) (a : Option Addr) (cap : Nat) (xs : List Value), k ≤ n ∧ i = .int .i64 k ∧ Lst d w B r1 k l rs a cap xs wr) (fun i _ => n - (intOf i).toNat)
    case atStart => exact ⟨0, [], r1, none, 0, [], Nat.zero_le _, rfl, HST.out⟩
    case round =>
      obtain ⟨k, l, rs, a, cap, xs, hk, rfl, hs⟩ := hrel
      have HS := Lib.hid hs
      obtain ⟨x0, x1, x2, x3⟩ := hs.box.cells
      obtain ⟨f0, f1, f2, f3⟩ := hs.box.free
      have hltr := hs.lt
      clear hs
      by_cases hlt : k < n
      · have kw : IntKind.i64.wrap (dep + 1) = dep + 1 := IntWalk.i64_in _ (by omega)
        have HRDd : Hid (Rd wr.drew B rs) := HS.out.rd
        have HBXd : Hid (Box4 wr.drew w.heap.size (.int .i64 3) (.int .i64 0) (.string ⟨#[]⟩) (.slice a k cap)) := HS.out.box
        have HBYd : Hid (w.grownBy wr.drew (some B)) := ⟨HS.out.by_.os, HS.out.by_.tape, HS.out.by_.output, HS.out.by_.size, HS.out.by_.block⟩
        have hXB : some w.heap.size ≠ some B := by simp; omega
        have hov : ∀ g, (Value.slice a k cap).ownBlock = some g → w.heap.size + 1 ≤ g := fun g hg => (HS.out.own.lt g hg).1
        cases hdv : decV d rs with
        | none =>
          have HP : Hid (∀ W, Rd W B rs → Calls Try.prog 32 #[.pointer (some ⟨B, 0, none⟩), .int .i64 (dep + 1)] W fun e w' => e = .panicked codeP ∧ W.grownBy w' (some B)) := fun W h => (IH.out rs W h).mono (by
            rintro e w' ⟨h1, ⟨v, r, c, h2, _⟩ | ⟨_, rfl⟩⟩
            · rw [hdv] at h2; cases h2
            · exact ⟨rfl, h1⟩)
          have HDN := Lib.hid (decL_none HS.out.dec hdv hlt)
          clear hdv
          go_wp2_with fail
          refine wp_region_any (by kernel_rfl) ?_
          refine wpAny_take (i := 0) (v := ?_) rfl (by kernel_rfl) (by kernel_rfl) (by kernel_rfl) (fun _ _ _ h => h) (Or.inl ⟨by rfl, ?_⟩) ?_
          rotate_left
          · intro w; go_simp; with_reducible rfl
          refine wpAny_take (i := 2) (v := ?_) rfl (by kernel_rfl) (by kernel_rfl) (by kernel_rfl) (fun _ _ _ h => h) (Or.inl ⟨by rfl, ?_⟩) ?_
          rotate_left
          · intro w; go_simp; with_reducible rfl
          refine wpAny_take (i := 3) (v := ?_) rfl (by kernel_rfl) (by kernel_rfl) (by kernel_rfl) (fun _ _ _ h => h) (Or.inl ⟨by rfl, ?_⟩) ?_
          rotate_left
          · intro w; go_simp; with_reducible rfl
          refine wpAny_take (i := 4) (v := ?_) rfl (by kernel_rfl) (by kernel_rfl) (by kernel_rfl) (fun _ _ _ h => h) (Or.inl ⟨by rfl, ?_⟩) ?_
          rotate_left
          · intro w; go_simp; with_reducible rfl
          refine wpAny_ready (rs := [1, 5]) (by kernel_rfl) (by simp) ?_
          refine AllReady.cons rfl (fun K hK => ?_) (AllReady.cons rfl (fun K hK => ?_) AllReady.nil)
          · go_simp
            refine hK _ _ ?_
            clear hK K
            refine wpAny_ready (rs := [5]) (by kernel_rfl) (by simp) ?_
            refine AllReady.cons rfl (fun K hK => ?_) AllReady.nil
            go_simp
            ((with_reducible refine (HP.out _ HRDd.out).mono ?_))
            rintro e w4 ⟨rfl, hg4⟩
            exact ⟨rfl, HBYd.out.andThen hg4 (fun j hj => .inr hj), .inr ⟨by rw [HDV.out, HD.out, HDN.out]; rfl, rfl⟩⟩
          · go_simp
            ((with_reducible refine (HP.out _ HRDd.out).mono ?_))
            rintro e w4 ⟨rfl, hg4⟩
            exact ⟨rfl, HBYd.out.andThen hg4 (fun j hj => .inr hj), .inr ⟨by rw [HDV.out, HD.out, HDN.out]; rfl, rfl⟩⟩
        | some p =>
          obtain ⟨v, r'⟩ := p
          have HQ : Hid (∀ W, Rd W B rs → Calls Try.prog 32 #[.pointer (some ⟨B, 0, none⟩), .int .i64 (dep + 1)] W fun e w' => ∃ c, e = .returned c ∧ r'.length ≤ rs.length ∧ RepF (fun b => W.heap.size ≤ b ∧ b < w'.heap.size) w' v c ∧ Rd w' B r' ∧ W.grownBy w' (some B)) := fun W h => (IH.out rs W h).mono (by
            rintro e w' ⟨h1, ⟨v, r, c, h2, h2', rfl, h3, h4⟩ | ⟨h2, _⟩⟩
            · rw [hdv] at h2; cases h2; exact ⟨c, rfl, h2', h3, h4, h1⟩
            · rw [hdv] at h2; cases h2)
          have K3 := Lib.hid (maxLen_le (n := k + 1) (by omega))
          have K4 := Lib.hid (show (k + 1) * 56 ≤ 140737488355328 by omega)
          have HDO := Lib.hid (decL_one HS.out.dec hdv)
          clear hdv
          go_wp2_with fail
          go_region_law (first
            | (go_simp; go_at_call 32; ((with_reducible refine (HQ.out _ HRDd.out).mono ?_)); rintro e w4 ⟨cc, rfl, hle4, hrep4, hrd4, hg4⟩; obtain ⟨k0, n0, s0, a0, len0, cap0, rfl⟩ := hrep4.form; have hX4 := HBXd.out.kept hg4 hXB; obtain ⟨y0, y1, y2, y3⟩ := hX4.cells; have HO4 := Lib.hid (own_keptB HS.out.own (by omega) hg4); have hsz4 : w.heap.size + 1 ≤ w4.heap.size := Nat.le_trans hltr hg4.size; have hsz4x : w.heap.size < w4.heap.size := hsz4)
            | (refine step_app (by rfl) _ _ (by rfl) elemV (w.heap.size + 1) (.slice a k cap) k xs (by rfl) (HO4.out.alloc _) (.slice (some ⟨w4.heap.size, 0, none⟩) 1 1) 1 [.int .i64 k0, .int .i64 n0, .string s0, .slice a0 len0 cap0] (by rfl) (Source.cells _ _ _ _ rfl rfl (World.news_of_block (cs := #[.int .i64 k0, .int .i64 n0, .string s0, .slice a0 len0 cap0]) (t := 24) (fr := (0, 0)) (heap_alloc_new w4 _)) (one4 _ _ _ _ _ _)) (.inl rfl) K3.out K4.out (le_alloc hsz4 _) ?_; intro v5 w5 hg5; have hX5 := box_grew hX4 hg5 hov; obtain ⟨z0, z1, z2, z3⟩ := hX5.cells; obtain ⟨zf0, zf1, zf2, zf3⟩ := hX5.free; obtain ⟨g5, cap5, rfl, hg51, hg52⟩ := hg5.own.form (Nat.succ_pos _)))
          all_goals
            go_wp2
            go_roundw
            case rel => exact ⟨k + 1, l ++ [v], r', some ⟨g5, 0, none⟩, cap5, _, by omega, by go_num, HS.out.step hBl HDO.out hle4 hrep4 hrd4 hg4 hg5 hX5⟩
            case measure => simp [intOf]; omega
      · go_wp2
        have hkn : k = n := by omega
        refine bodyPost_ret (v := .agg #[.int .i64 3, .int .i64 0, .string ⟨#[]⟩, .slice a k cap]) (by simp [results, Try.results32, go_sem, x0, x1, x2, x3]) rfl ?_
        have hdv : decV (d + 1) (c :: r) = some (.mk 3 0 [] l, rs) := by
          rw [HDV.out, HD.out, ← hkn, HS.out.dec]; rfl
        have hle := HS.out.le
        refine ⟨?_, .inl ⟨_, rs, _, hdv, by simp; omega, rfl, HS.out.done (by omega) (by simp [World.setCell]) (fun b h1 h2 => by repeat (rw [setCell_other _ _ _ _ _ (by omega)])), ?_⟩⟩
        · repeat (refine grownBy_set ?_ _ _ _ (Nat.le_refl _))
          exact HS.out.by_
        · exact (((HS.out.rd.set _ _ _ hBl).set _ _ _ hBl).set _ _ _ hBl).set _ _ _ hBl
  · exact ⟨rfl, HAT.out.by_.andThen hg3 (fun j hj => .inr hj), .inr ⟨by rw [HDV.out, decList_none hd], rfl⟩⟩

/-- the reader's value, at every depth -/
theorem value_any (B : Nat) : ∀ (d : Nat), d ≤ 16 → ∀ (bs : List UInt8) (w : World), Rd w B bs → Calls Try.prog 32 #[.pointer (some ⟨B, 0, none⟩), .int .i64 (16 - d)] w (ValRd d bs B w) := by
  intro d
  induction d with
  | zero =>
    intro _ bs w hr
    cases bs with
    | nil => exact value_nil 0 B w hr _
    | cons c r =>
      by_cases h1 : c.toNat = 1
      · exact value_1 0 c r B w hr h1 _
      · by_cases h2 : c.toNat = 2
        · exact value_2 0 c r B w hr h2 _
        · by_cases h3 : c.toNat = 3
          · exact value_30 c r B w hr h3
          · exact value_o 0 c r B w hr h1 h2 h3 _
  | succ d ih =>
    intro hd bs w hr
    cases bs with
    | nil => exact value_nil _ B w hr _
    | cons c r =>
      by_cases h1 : c.toNat = 1
      · exact value_1 _ c r B w hr h1 _
      · by_cases h2 : c.toNat = 2
        · exact value_2 _ c r B w hr h2 _
        · by_cases h3 : c.toNat = 3
          · refine value_3 d c r B w hr h3 _ (by omega) (by omega) fun bs w h => ?_
            have e : (16 - ((d + 1 : Nat) : Int)) + 1 = 16 - (d : Int) := by omega
            rw [e]
            exact ih (by omega) bs w h
          · exact value_o _ c r B w hr h1 h2 h3 _
end Go.Proofs.Ytedkoifbjmemdaa
