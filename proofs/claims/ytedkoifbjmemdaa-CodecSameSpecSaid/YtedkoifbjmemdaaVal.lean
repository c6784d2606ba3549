/- codec: the reader's values -/
import Derived.Test.YtedkoifbjmemdaaRepF
import Derived.Laws.BytesArg
import Derived.Laws.IdiomStrings
namespace Go.Proofs.Ytedkoifbjmemdaa
open Go.RowKit
attribute [local go_sem ↓] Go.wp_at_zero Go.wp_at_succ
theorem Bytes.conv {w : World} {a : Option Addr} {bs : List UInt8} (h : Bytes w a bs) (cap : Nat) : (convert 27 9 (.slice a bs.length cap)).run Try.prog w = .ok (.string ⟨bs.toArray⟩) w := by
  cases a with
  | none =>
    have : bs = [] := by
      rcases h with h | ⟨b, off, h, _⟩
      · exact h
      · cases h
    subst this
    exact run_convert_bytes_nil w 27 5 Try.underlying27 Try.underlying5 0 cap 9 Try.underlying9
  | some ad =>
    refine run_convert_bytes_back w 27 9 5 ad cap bs Try.underlying27 Try.underlying5 Try.underlying9 fun j hj => ?_
    rcases h with h | ⟨b, off, h, hc⟩
    · subst h; simp at hj
    · injection h with h
      subst h
      have := hc j hj
      by_cases h0 : j = 0
      · subst h0; simpa [Addr.add, byteV] using this
      · simpa [Addr.add, h0, byteV] using this
def ValRd (d : Nat) (bs : List UInt8) (B : Nat) (w : World) (e : Ending) (w' : World) : Prop :=
  w.grownBy w' (some B) ∧ ((∃ v r c, decV d bs = some (v, r) ∧ r.length ≤ bs.length ∧ e = .returned c ∧ RepF (fun b => w.heap.size ≤ b ∧ b < w'.heap.size) w' v c ∧ Rd w' B r) ∨ (decV d bs = none ∧ e = .panicked codeP))
/-- a struct of the call's own -/
def Box4 (w : World) (X : Nat) (c0 c1 c2 c3 : Value) : Prop := w.heap[X]? = some (.cells #[c0, c1, c2, c3] 24 (0, 0))
theorem Box4.cells {w : World} {X : Nat} {c0 c1 c2 c3 : Value} (h : Box4 w X c0 c1 c2 c3) : w.cell? ⟨X, 0, none⟩ = some c0 ∧ w.cell? ⟨X, 1, none⟩ = some c1 ∧ w.cell? ⟨X, 2, none⟩ = some c2 ∧ w.cell? ⟨X, 3, none⟩ = some c3 := by
  unfold Box4 at h; simp [World.cell?, h]
theorem Box4.free {w : World} {X : Nat} {c0 c1 c2 c3 : Value} (h : Box4 w X c0 c1 c2 c3) : w.frozen? ⟨X, 0, none⟩ = false ∧ w.frozen? ⟨X, 1, none⟩ = false ∧ w.frozen? ⟨X, 2, none⟩ = false ∧ w.frozen? ⟨X, 3, none⟩ = false := by
  unfold Box4 at h; simp [World.frozen?, h]
theorem Box4.new (w : World) (c0 c1 c2 c3 : Value) : Box4 (w.alloc (.cells #[c0, c1, c2, c3] 24)) w.heap.size c0 c1 c2 c3 := heap_alloc_new w _
theorem Box4.kept {w w' : World} {X : Nat} {c0 c1 c2 c3 : Value} {row : Option Nat} (h : Box4 w X c0 c1 c2 c3) (hg : w.grownBy w' row) (hne : some X ≠ row) : Box4 w' X c0 c1 c2 c3 :=
  (hg.block X (by have := (Array.getElem?_eq_some_iff.1 h).1; exact this) hne).trans h
theorem Rd.alloc {w : World} {B : Nat} {bs : List UInt8} (h : Rd w B bs) (o : Obj) : Rd (w.alloc o) B bs := by
  obtain ⟨a, cap, hB, hl, hcap, hby, hlt⟩ := h
  have hBl : B < w.heap.size := (Array.getElem?_eq_some_iff.1 hB).1
  exact ⟨a, cap, (Below.heap_alloc w o B hBl).trans hB, hl, hcap, hby.below ((Below.refl _ _).alloc (Nat.le_refl _) _), hlt⟩
theorem Rd.lt {w : World} {B : Nat} {bs : List UInt8} (h : Rd w B bs) : B < w.heap.size := by
  obtain ⟨a, cap, hB, _⟩ := h
  exact (Array.getElem?_eq_some_iff.1 hB).1
theorem Rd.len {w : World} {B : Nat} {bs : List UInt8} (h : Rd w B bs) : bs.length ≤ 1000000 := by
  obtain ⟨a, cap, hB, hl, hcap, _⟩ := h
  exact hcap
theorem Rd.keep {w w' : World} {B : Nat} {bs : List UInt8} (h : Rd w B bs) (hk : ∀ b, b ≤ B → w'.heap[b]? = w.heap[b]?) : Rd w' B bs := by
  obtain ⟨a, cap, hB, hl, hcap, hby, hlt⟩ := h
  refine ⟨a, cap, (hk B (Nat.le_refl _)).trans hB, hl, hcap, ?_, hlt⟩
  rcases hby with h | ⟨b, off, rfl, hc⟩
  · exact .inl h
  · have hb : b < B := hlt _ rfl
    exact .inr ⟨b, off, rfl, fun i hi => (World.cell?_of_block (w := w) (w' := w') (a := ⟨b, off + i, none⟩) (hk b (by omega))).trans (hc i hi)⟩
theorem decV_1 (d : Nat) (c : UInt8) (r : List UInt8) (h : c.toNat = 1) : decV d (c :: r) = decInt r := by unfold decV; rw [if_pos h]
theorem decV_2 (d : Nat) (c : UInt8) (r : List UInt8) (h : c.toNat = 2) : decV d (c :: r) = decText r := by unfold decV; rw [if_neg (by omega), if_pos h]
theorem decV_3 (d : Nat) (c : UInt8) (r : List UInt8) (h : c.toNat = 3) : decV (d + 1) (c :: r) = decList (decV d) r := by unfold decV; rw [if_neg (by omega), if_neg (by omega), if_pos h]
theorem decV_30 (c : UInt8) (r : List UInt8) (h : c.toNat = 3) : decV 0 (c :: r) = none := by unfold decV; rw [if_neg (by omega), if_neg (by omega), if_pos h]
theorem decV_o (d : Nat) (c : UInt8) (r : List UInt8) (h1 : ¬ c.toNat = 1) (h2 : ¬ c.toNat = 2) (h3 : ¬ c.toNat = 3) : decV d (c :: r) = none := by unfold decV; rw [if_neg h1, if_neg h2, if_neg h3]
theorem decV_nil (d : Nat) : decV d [] = none := by unfold decV; rfl
theorem Box4.set0 {w : World} {X : Nat} {c0 c1 c2 c3 : Value} (h : Box4 w X c0 c1 c2 c3) (u : Value) : Box4 (w.setCell ⟨X, 0, none⟩ u) X u c1 c2 c3 := by
  unfold Box4 at h ⊢; simp only [World.setCell, Array.getElem?_modify, h]; simp
theorem Box4.set1 {w : World} {X : Nat} {c0 c1 c2 c3 : Value} (h : Box4 w X c0 c1 c2 c3) (u : Value) : Box4 (w.setCell ⟨X, 1, none⟩ u) X c0 u c2 c3 := by
  unfold Box4 at h ⊢; simp only [World.setCell, Array.getElem?_modify, h]; simp
theorem Box4.set2 {w : World} {X : Nat} {c0 c1 c2 c3 : Value} (h : Box4 w X c0 c1 c2 c3) (u : Value) : Box4 (w.setCell ⟨X, 2, none⟩ u) X c0 c1 u c3 := by
  unfold Box4 at h ⊢; simp only [World.setCell, Array.getElem?_modify, h]; simp
theorem Box4.set3 {w : World} {X : Nat} {c0 c1 c2 c3 : Value} (h : Box4 w X c0 c1 c2 c3) (u : Value) : Box4 (w.setCell ⟨X, 3, none⟩ u) X c0 c1 c2 u := by
  unfold Box4 at h ⊢; simp only [World.setCell, Array.getElem?_modify, h]; simp
theorem grownBy_set {a w : World} {B : Nat} (h : a.grownBy w (some B)) (X o : Nat) (u : Value) (hX : a.heap.size ≤ X) : a.grownBy (w.setCell ⟨X, o, none⟩ u) (some B) :=
  h.andThen (row' := some X) ⟨rfl, rfl, rfl, by simp [World.setCell], fun k _ hk => Below.heap_setCell w ⟨X, o, none⟩ u k (fun e => hk (by rw [e]))⟩ (fun j hj => by cases hj; exact .inl hX)
theorem Rd.set {w : World} {B : Nat} {bs : List UInt8} (h : Rd w B bs) (X o : Nat) (u : Value) (hX : B < X) : Rd (w.setCell ⟨X, o, none⟩ u) B bs :=
  h.keep fun b hb => Below.heap_setCell w ⟨X, o, none⟩ u b (by show b ≠ X; omega)
/-- behind the first byte: the kind is stored -/
structure At1 (w : World) (B : Nat) (r : List UInt8) (x : Int) (w2 : World) : Prop where
  box : Box4 w2 w.heap.size (.int .i64 x) (.int .i64 0) (.string ⟨#[]⟩) (.slice none 0 0)
  rd : Rd w2 B r
  by_ : w.grownBy w2 (some B)
  lt : w.heap.size < w2.heap.size
theorem at1_of {w w1 : World} {B : Nat} {r : List UInt8} (x : Int) (hB : B < w.heap.size) (hg : (w.alloc (.cells #[.int .i64 0, .int .i64 0, .string ⟨#[]⟩, .slice none 0 0] 24)).grownBy w1 (some B)) (hrd : Rd w1 B r) :
    At1 w B r x (w1.setCell ⟨w.heap.size, 0, none⟩ (.int .i64 x)) := by
  have hX := (Box4.new w (.int .i64 0) (.int .i64 0) (.string ⟨#[]⟩) (.slice none 0 0)).kept hg (by simp; omega)
  have hs := hg.size
  rw [size_a1] at hs
  refine ⟨hX.set0 _, hrd.set _ _ _ hB, grownBy_set ((World.grownBy_alloc w _ _).andThen hg (fun j hj => .inr hj)) _ _ _ (Nat.le_refl _), ?_⟩
  simp [World.setCell]; omega
theorem repF_leaf {F : Nat → Prop} {w : World} {k n : Int} {s : List UInt8} (hk : i64R k) (hn : i64R n) (hs : s.length ≤ 140737488351232) : RepF F w (.mk k n s []) (.agg #[.int .i64 k, .int .i64 n, .string ⟨s.toArray⟩, .slice none 0 0]) := by
  simp only [RepF, List.length_nil]
  exact ⟨none, 0, rfl, hk, hn, hs, by omega, by omega, by simp only [RepFL]⟩

set_option maxRecDepth 100000 in
set_option maxHeartbeats 3200000 in
theorem value_1 (d : Nat) (c : UInt8) (r : List UInt8) (B : Nat) (w : World) (hr : Rd w B (c :: r)) (hx : c.toNat = 1) (dep : Int) :
    Calls Try.prog 32 #[.pointer (some ⟨B, 0, none⟩), .int .i64 dep] w (ValRd d (c :: r) B w) := by
  have HDV := Lib.hid (decV_1 d c r hx)
  have HXE := Lib.hid hx
  clear hx
  have hBl := hr.lt
  have HR := Lib.hid (hr.alloc (.cells #[.int .i64 0, .int .i64 0, .string ⟨#[]⟩, .slice none 0 0] 24))
  have hX := Box4.new w (.int .i64 0) (.int .i64 0) (.string ⟨#[]⟩) (.slice none 0 0)
  have HX := Lib.hid hX
  clear hr hX
  go_enter Try.func32, Try.ntmps32
  go_wp2_with fail
  refine (take_rd HR.out 1 (by simp)).mono ?_
  rintro e w1 ⟨a1, rfl, hby, _, hrd1, hgr1⟩
  obtain ⟨b1, off1, rfl, hc1⟩ := hby.resolve_left (by simp)
  have hc0 := hc1 0 (by simp)
  simp only [List.take_succ_cons, List.take_zero, List.getElem_cons_zero, Nat.add_zero, byteV, HXE.out] at hc0
  simp only [List.drop_succ_cons, List.drop_zero] at hrd1
  have hX1 := HX.out.kept hgr1 (by simp; omega)
  obtain ⟨x0, x1, x2, x3⟩ := hX1.cells
  obtain ⟨f0, f1, f2, f3⟩ := hX1.free
  have hat := at1_of 1 hBl hgr1 hrd1
  have HAT := Lib.hid hat
  clear hby hc1 hrd1 hX1 hat hgr1 HX HR
  go_wp2_with fail
  generalize w1.setCell ⟨w.heap.size, 0, none⟩ (.int .i64 1) = W2 at *
  clear x0 x1 x2 x3 f0 f1 f2 f3 hc0
  refine (number_any r B W2 HAT.out.rd).mono ?_
  rintro e w3 ⟨hg3, ⟨u, r', hd, rfl, hrd3⟩ | ⟨hd, rfl⟩⟩
  · obtain ⟨hu, hrb⟩ := decNum_lt hd
    have hX3 := HAT.out.box.kept hg3 (by simp; omega)
    obtain ⟨x0, x1, x2, x3⟩ := hX3.cells
    obtain ⟨f0, f1, f2, f3⟩ := hX3.free
    have HX3 := Lib.hid hX3
    have HRD3 := Lib.hid hrd3
    have HD := Lib.hid hd
    have HU := Lib.hid hu
    have HG3 := Lib.hid hg3
    clear hX3 hrd3 hd hu hg3
    go_wp2_with fail
    refine (signed_any u _ HU.out).mono ?_
    rintro e w4 ⟨rfl, rfl⟩
    go_wp2
    refine bodyPost_ret (v := .agg #[.int .i64 1, .int .i64 (unzz u), .string ⟨#[]⟩, .slice none 0 0]) (by simp [results, Try.results32, go_sem, x0, x1, x2, x3]) rfl ?_
    have hdv : decV d (c :: r) = some (.mk 1 (unzz u) [] [], r') := by rw [HDV.out]; unfold decInt; rw [HD.out]
    refine ⟨?_, .inl ⟨_, r', _, hdv, by simp; omega, rfl, repF_leaf (s := []) (by unfold i64R; omega) (unzz_R HU.out) (by simp), ?_⟩⟩
    · repeat (refine grownBy_set ?_ _ _ _ (Nat.le_refl _))
      exact HAT.out.by_.andThen HG3.out (fun j hj => .inr hj)
    · exact ((((HRD3.out.set _ _ _ hBl).set _ _ _ hBl).set _ _ _ hBl).set _ _ _ hBl).set _ _ _ hBl
  · exact ⟨rfl, HAT.out.by_.andThen hg3 (fun j hj => .inr hj), .inr ⟨by rw [HDV.out]; unfold decInt; rw [hd], rfl⟩⟩

set_option maxRecDepth 100000 in
set_option maxHeartbeats 3200000 in
theorem value_2 (d : Nat) (c : UInt8) (r : List UInt8) (B : Nat) (w : World) (hr : Rd w B (c :: r)) (hx : c.toNat = 2) (dep : Int) :
    Calls Try.prog 32 #[.pointer (some ⟨B, 0, none⟩), .int .i64 dep] w (ValRd d (c :: r) B w) := by
  have HDV := Lib.hid (decV_2 d c r hx)
  have HXE := Lib.hid hx
  clear hx
  have hBl := hr.lt
  have HR := Lib.hid (hr.alloc (.cells #[.int .i64 0, .int .i64 0, .string ⟨#[]⟩, .slice none 0 0] 24))
  have hX := Box4.new w (.int .i64 0) (.int .i64 0) (.string ⟨#[]⟩) (.slice none 0 0)
  have HX := Lib.hid hX
  clear hr hX
  go_enter Try.func32, Try.ntmps32
  go_wp2_with fail
  refine (take_rd HR.out 1 (by simp)).mono ?_
  rintro e w1 ⟨a1, rfl, hby, _, hrd1, hgr1⟩
  obtain ⟨b1, off1, rfl, hc1⟩ := hby.resolve_left (by simp)
  have hc0 := hc1 0 (by simp)
  simp only [List.take_succ_cons, List.take_zero, List.getElem_cons_zero, Nat.add_zero, byteV, HXE.out] at hc0
  simp only [List.drop_succ_cons, List.drop_zero] at hrd1
  have hX1 := HX.out.kept hgr1 (by simp; omega)
  obtain ⟨x0, x1, x2, x3⟩ := hX1.cells
  obtain ⟨f0, f1, f2, f3⟩ := hX1.free
  have hat := at1_of 2 hBl hgr1 hrd1
  have HAT := Lib.hid hat
  clear hby hc1 hrd1 hX1 hat hgr1 HX HR
  go_wp2_with fail
  generalize w1.setCell ⟨w.heap.size, 0, none⟩ (.int .i64 2) = W2 at *
  clear x0 x1 x2 x3 f0 f1 f2 f3 hc0
  refine (length_any r B W2 HAT.out.rd).mono ?_
  rintro e w3 ⟨hg3, ⟨n, r', hd, hn, hrb, rfl, hrd3⟩ | ⟨hd, rfl⟩⟩
  · have hX3 := HAT.out.box.kept hg3 (by simp; omega)
    have HX3 := Lib.hid hX3
    have HRD3 := Lib.hid hrd3
    have HD := Lib.hid hd
    have HG3 := Lib.hid hg3
    have hrl := hrd3.len
    clear hX3 hrd3 hd hg3
    go_wp2_with fail
    refine (take_rd HRD3.out n hn).mono ?_
    rintro e w4 ⟨a4, rfl, hby4, _, hrd4, hg4⟩
    have hX4 := HX3.out.kept hg4 (by simp; omega)
    obtain ⟨x0, x1, x2, x3⟩ := hX4.cells
    obtain ⟨f0, f1, f2, f3⟩ := hX4.free
    have hcv := hby4.conv n
    have hln : (r'.take n).length = n := by rw [List.length_take]; omega
    rw [hln] at hcv
    have HRD4 := Lib.hid hrd4
    have HG4 := Lib.hid hg4
    have HLN := Lib.hid hln
    clear hX4 hrd4 hg4 hby4 hln
    go_wp2
    refine bodyPost_ret (v := .agg #[.int .i64 2, .int .i64 0, .string ⟨(r'.take n).toArray⟩, .slice none 0 0]) (by simp [results, Try.results32, go_sem, x0, x1, x2, x3]) rfl ?_
    have hdv : decV d (c :: r) = some (.mk 2 0 (r'.take n) [], r'.drop n) := by
      have h1 := HD.out
      rw [HDV.out]
      unfold decText
      unfold decLen at h1
      cases hd : decNum r with
      | none => rw [hd] at h1; cases h1
      | some p =>
        obtain ⟨n', r''⟩ := p
        rw [hd] at h1
        simp only at h1 ⊢
        split at h1
        · rename_i hle
          simp only [Option.some.injEq, Prod.mk.injEq] at h1
          obtain ⟨rfl, rfl⟩ := h1
          rw [if_pos hle]
        · cases h1
    refine ⟨?_, .inl ⟨_, r'.drop n, _, hdv, by simp; omega, rfl, repF_leaf (by unfold i64R; omega) (by unfold i64R; omega) (by have := HLN.out; omega), ?_⟩⟩
    · repeat (refine grownBy_set ?_ _ _ _ (Nat.le_refl _))
      exact (HAT.out.by_.andThen HG3.out (fun j hj => .inr hj)).andThen HG4.out (fun j hj => .inr hj)
    · exact ((((HRD4.out.set _ _ _ hBl).set _ _ _ hBl).set _ _ _ hBl).set _ _ _ hBl).set _ _ _ hBl
  · refine ⟨rfl, HAT.out.by_.andThen hg3 (fun j hj => .inr hj), .inr ⟨?_, rfl⟩⟩
    rw [HDV.out]
    unfold decText
    unfold decLen at hd
    cases hn : decNum r with
    | none => rfl
    | some p =>
      obtain ⟨n', r''⟩ := p
      rw [hn] at hd
      simp only at hd ⊢
      split at hd
      · cases hd
      · rename_i hle; rw [if_neg hle]

set_option maxRecDepth 100000 in
set_option maxHeartbeats 3200000 in
theorem value_o (d : Nat) (c : UInt8) (r : List UInt8) (B : Nat) (w : World) (hr : Rd w B (c :: r)) (h1 : ¬ c.toNat = 1) (h2 : ¬ c.toNat = 2) (h3 : ¬ c.toNat = 3) (dep : Int) :
    Calls Try.prog 32 #[.pointer (some ⟨B, 0, none⟩), .int .i64 dep] w (ValRd d (c :: r) B w) := by
  have HDV := Lib.hid (decV_o d c r h1 h2 h3)
  have HN : Hid (∀ p w, Calls Try.prog 33 #[p, .bool false] w fun e w' => e = .panicked codeP ∧ w = w') := want_no
  obtain ⟨x, hx⟩ : ∃ x, c.toNat = x := ⟨_, rfl⟩
  have hxb : (x : Int) < 256 := by have := c.toNat_lt; omega
  rw [hx] at h1 h2 h3
  have g1 : ((x : Int) == 1) = false := by simp; omega
  have g2 : ((x : Int) == 2) = false := by simp; omega
  have g3 : ((x : Int) == 3) = false := by simp; omega
  have HXE := Lib.hid hx
  clear hx h1 h2 h3
  have hBl := hr.lt
  have HR := Lib.hid (hr.alloc (.cells #[.int .i64 0, .int .i64 0, .string ⟨#[]⟩, .slice none 0 0] 24))
  have hX := Box4.new w (.int .i64 0) (.int .i64 0) (.string ⟨#[]⟩) (.slice none 0 0)
  have HX := Lib.hid hX
  clear hr hX
  go_enter Try.func32, Try.ntmps32
  go_wp2_with fail
  refine (take_rd HR.out 1 (by simp)).mono ?_
  rintro e w1 ⟨a1, rfl, hby, _, hrd1, hgr1⟩
  obtain ⟨b1, off1, rfl, hc1⟩ := hby.resolve_left (by simp)
  have hc0 := hc1 0 (by simp)
  simp only [List.take_succ_cons, List.take_zero, List.getElem_cons_zero, Nat.add_zero, byteV, HXE.out] at hc0
  simp only [List.drop_succ_cons, List.drop_zero] at hrd1
  have hX1 := HX.out.kept hgr1 (by simp; omega)
  obtain ⟨x0, x1, x2, x3⟩ := hX1.cells
  obtain ⟨f0, f1, f2, f3⟩ := hX1.free
  have hat := at1_of x hBl hgr1 hrd1
  have HAT := Lib.hid hat
  clear hby hc1 hrd1 hX1 hat hgr1 HX HR
  go_wp2_with fail
  generalize w1.setCell ⟨w.heap.size, 0, none⟩ (.int .i64 x) = W2 at *
  clear x0 x1 x2 x3 f0 f1 f2 f3 hc0
  with_reducible refine (HN.out _ _).mono ?_
  rintro e w3 ⟨rfl, rfl⟩
  exact ⟨rfl, HAT.out.by_, .inr ⟨HDV.out, rfl⟩⟩

set_option maxRecDepth 100000 in
set_option maxHeartbeats 3200000 in
theorem value_30 (c : UInt8) (r : List UInt8) (B : Nat) (w : World) (hr : Rd w B (c :: r)) (hx : c.toNat = 3) :
    Calls Try.prog 32 #[.pointer (some ⟨B, 0, none⟩), .int .i64 16] w (ValRd 0 (c :: r) B w) := by
  have HDV := Lib.hid (decV_30 c r hx)
  have HN : Hid (∀ p w, Calls Try.prog 33 #[p, .bool false] w fun e w' => e = .panicked codeP ∧ w = w') := want_no
  have HXE := Lib.hid hx
  clear hx
  have hBl := hr.lt
  have HR := Lib.hid (hr.alloc (.cells #[.int .i64 0, .int .i64 0, .string ⟨#[]⟩, .slice none 0 0] 24))
  have hX := Box4.new w (.int .i64 0) (.int .i64 0) (.string ⟨#[]⟩) (.slice none 0 0)
  have HX := Lib.hid hX
  clear hr hX
  go_enter Try.func32, Try.ntmps32
  go_wp2_with fail
  refine (take_rd HR.out 1 (by simp)).mono ?_
  rintro e w1 ⟨a1, rfl, hby, _, hrd1, hgr1⟩
  obtain ⟨b1, off1, rfl, hc1⟩ := hby.resolve_left (by simp)
  have hc0 := hc1 0 (by simp)
  simp only [List.take_succ_cons, List.take_zero, List.getElem_cons_zero, Nat.add_zero, byteV, HXE.out] at hc0
  simp only [List.drop_succ_cons, List.drop_zero] at hrd1
  have hX1 := HX.out.kept hgr1 (by simp; omega)
  obtain ⟨x0, x1, x2, x3⟩ := hX1.cells
  obtain ⟨f0, f1, f2, f3⟩ := hX1.free
  have hat := at1_of 3 hBl hgr1 hrd1
  have HAT := Lib.hid hat
  clear hby hc1 hrd1 hX1 hat hgr1 HX HR
  go_wp2_with fail
  generalize w1.setCell ⟨w.heap.size, 0, none⟩ (.int .i64 3) = W2 at *
  clear x0 x1 x2 x3 f0 f1 f2 f3 hc0
  with_reducible refine (HN.out _ _).mono ?_
  rintro e w3 ⟨rfl, rfl⟩
  exact ⟨rfl, HAT.out.by_, .inr ⟨HDV.out, rfl⟩⟩

set_option maxRecDepth 100000 in
set_option maxHeartbeats 3200000 in
theorem value_nil (d : Nat) (B : Nat) (w : World) (hr : Rd w B []) (dep : Int) :
    Calls Try.prog 32 #[.pointer (some ⟨B, 0, none⟩), .int .i64 dep] w (ValRd d [] B w) := by
  have HR := Lib.hid (hr.alloc (.cells #[.int .i64 0, .int .i64 0, .string ⟨#[]⟩, .slice none 0 0] 24))
  clear hr
  go_enter Try.func32, Try.ntmps32
  go_wp2_with fail
  refine (take_rd_no HR.out 1 (by simp)).mono ?_
  rintro e w1 ⟨rfl, rfl⟩
  exact ⟨rfl, World.grownBy_alloc _ _ _, .inr ⟨decV_nil d, rfl⟩⟩
end Go.Proofs.Ytedkoifbjmemdaa
