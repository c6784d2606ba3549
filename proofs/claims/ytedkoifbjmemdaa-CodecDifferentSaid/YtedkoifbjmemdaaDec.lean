/- codec: Decode -/
import Derived.Test.YtedkoifbjmemdaaVal3
import Derived.Defers
import Derived.Recover
namespace Go.Proofs.Ytedkoifbjmemdaa
open Go.RowKit
/-- the code's cell -/
def Cell1 (w : World) (Y : Nat) (v : Value) : Prop := w.heap[Y]? = some (.cells #[v] 28 (0, 0))
theorem Cell1.cell {w : World} {Y : Nat} {v : Value} (h : Cell1 w Y v) : w.cell? ⟨Y, 0, none⟩ = some v := cell_of h
theorem Cell1.free {w : World} {Y : Nat} {v : Value} (h : Cell1 w Y v) : w.frozen? ⟨Y, 0, none⟩ = false := by unfold Cell1 at h; simp [World.frozen?, h]
set_option maxRecDepth 100000 in
set_option maxHeartbeats 1000000 in
theorem catch_idle (pv pe : Value) (w : World) :
    CallsD Try.prog 31 #[pv, pe] .returning w fun e u' w' => e = .returned (.tuple #[]) ∧ u' = .returning ∧ w' = w := by
  refine callsD_of_wpS Try.func31 rfl fun c₀ cs hu => ?_
  apply wpS_seq
  apply wpS_region
  simp [wpOpsS, go_sem, recoverD, hu, Try.ntmps31, Exit.thenS]
  apply wpS_seq
  apply wpS_region
  simp [wpOpsS, go_sem, Exit.thenS]
  refine wpS_cond (t := false) (by simp [Act.eval, Array.replicate]) ?_
  simp only [Bool.false_eq_true, if_false]
  refine wpS_of_wp (wp_skip ?_)
  cases c₀
  simp_all [bodyPostS, results, Try.results31]
theorem catch_world {X Y : Nat} {c0 c1 c2 c3 ev : Value} {w : World} (hX : Box4 w X c0 c1 c2 c3) (hY : Cell1 w Y ev) (hne : X ≠ Y) {W : World}
    (hW : W = (((((w.setCell ⟨X, 0, none⟩ (.int .i64 0)).setCell ⟨X, 1, none⟩ (.int .i64 0)).setCell ⟨X, 2, none⟩ (.string ⟨#[]⟩)).setCell ⟨X, 3, none⟩ (.slice none 0 0)).setCell ⟨Y, 0, none⟩ (.int .i64 10)) := by rfl) :
    Box4 W.drew X (.int .i64 0) (.int .i64 0) (.string ⟨#[]⟩) (.slice none 0 0) ∧ Cell1 W.drew Y (.int .i64 10) ∧ W.drew.os = w.os ∧ W.drew.tape = w.tape ∧ W.drew.output = w.output ∧ W.drew.heap.size = w.heap.size ∧ ∀ b, ¬ b = X → ¬ b = Y → W.drew.heap[b]? = w.heap[b]? := by
  have hne' : ¬ Y = X := fun e => hne e.symm
  have hX4 := (((hX.set0 (.int .i64 0)).set1 (.int .i64 0)).set2 (.string ⟨#[]⟩)).set3 (.slice none 0 0)
  have hY4 : Cell1 ((((w.setCell ⟨X, 0, none⟩ (.int .i64 0)).setCell ⟨X, 1, none⟩ (.int .i64 0)).setCell ⟨X, 2, none⟩ (.string ⟨#[]⟩)).setCell ⟨X, 3, none⟩ (.slice none 0 0)) Y ev := by
    unfold Cell1
    rw [setCell_other _ _ _ _ _ hne', setCell_other _ _ _ _ _ hne', setCell_other _ _ _ _ _ hne', setCell_other _ _ _ _ _ hne']
    exact hY
  have hX5 := (setCell_other _ Y 0 (.int .i64 10) X hne).trans hX4
  have hY5 := heap_setCell1 (u := .int .i64 10) hY4
  rw [← hW] at hX5 hY5
  have h5 : ∀ b, ¬ b = X → ¬ b = Y → W.heap[b]? = w.heap[b]? := by
    intro b h1 h2
    rw [hW, setCell_other _ _ _ _ _ h2, setCell_other _ _ _ _ _ h1, setCell_other _ _ _ _ _ h1, setCell_other _ _ _ _ _ h1, setCell_other _ _ _ _ _ h1]
  have g1 : W.os = w.os := by rw [hW]; simp only [World.setCell]
  have g2 : W.tape = w.tape := by rw [hW]; simp only [World.setCell]
  have g3 : W.output = w.output := by rw [hW]; simp only [World.setCell]
  have g4 : W.heap.size = w.heap.size := by rw [hW]; simp [World.setCell]
  exact ⟨hX5, hY5, g1, g2, g3, g4, h5⟩
theorem typeAssert_code : ∀ w, (Instr.typeAssert (.iface 28 (.int .i64 10)) 20 28 false).run Try.prog w = .ok (.int .i64 10) w := fun _ => by kernel_rfl
set_option maxRecDepth 100000 in
set_option maxHeartbeats 1000000 in
theorem catch_code (X Y : Nat) (c0 c1 c2 c3 ev : Value) (w : World) (hX : Box4 w X c0 c1 c2 c3) (hY : Cell1 w Y ev) (hne : X ≠ Y) :
    CallsD Try.prog 31 #[.pointer (some ⟨X, 0, none⟩), .pointer (some ⟨Y, 0, none⟩)] (.panicking ({ v := .iface 28 (.int .i64 10), recovered := false } :: [])) w fun e u' w' =>
      e = .returned (.tuple #[]) ∧ u' = .panicking ({ v := .iface 28 (.int .i64 10), recovered := true } :: []) ∧ Box4 w' X (.int .i64 0) (.int .i64 0) (.string ⟨#[]⟩) (.slice none 0 0) ∧ Cell1 w' Y (.int .i64 10) ∧ (w'.os = w.os ∧ w'.tape = w.tape ∧ w'.output = w.output ∧ w'.heap.size = w.heap.size ∧ ∀ b, b ≠ X → b ≠ Y → w'.heap[b]? = w.heap[b]?) := by
  refine callsD_of_wpS Try.func31 rfl fun c₀ cs hu => ?_
  apply wpS_seq
  apply wpS_region
  simp [wpOpsS, go_sem, recoverD, hu, Try.ntmps31, Exit.thenS]
  apply wpS_seq
  apply wpS_region
  simp [wpOpsS, go_sem, Exit.thenS]
  refine wpS_cond (t := true) (by simp [Act.eval, Array.replicate]) ?_
  simp only [if_true]
  refine wpS_of_wp ?_
  simp only [Array.replicate_succ, Array.replicate_zero, List.push_toArray, List.append_toArray, List.nil_append, List.cons_append, List.setIfInBounds_toArray, List.set_cons_zero, List.set_cons_succ]
  obtain ⟨x0, x1, x2, x3⟩ := hX.cells
  obtain ⟨f0, f1, f2, f3⟩ := hX.free
  have y0 := hY.cell
  have yf := hY.free
  have hne' : ¬ Y = X := fun e => hne e.symm
  have hta := typeAssert_code
  go_region
  obtain ⟨hX5, hY5, e1, e2, e3, e4, e5⟩ := catch_world hX hY hne
  generalize (((((w.setCell ⟨X, 0, none⟩ (.int .i64 0)).setCell ⟨X, 1, none⟩ (.int .i64 0)).setCell ⟨X, 2, none⟩ (.string ⟨#[]⟩)).setCell ⟨X, 3, none⟩ (.slice none 0 0)).setCell ⟨Y, 0, none⟩ (.int .i64 10)) = W5 at *
  show bodyPostS _ _ _ _ _ _ _ _ _
  refine ⟨rfl, .panicking [{ v := .iface 28 (.int .i64 10), recovered := true }], rfl, .tuple #[], by simp [results, Try.results31], ?_⟩
  exact ⟨rfl, rfl, hX5, hY5, e1, e2, e3, e4, e5⟩

def V.zero : V := .mk 0 0 [] []
def DecPost (bs : List UInt8) (w : World) (e : Ending) (w' : World) : Prop :=
  ∃ c, e = .returned (.tuple #[c, .int .i64 (if (dec bs).isSome then 0 else 10)]) ∧ RepV w' ((dec bs).getD V.zero) c ∧ Below w.heap.size w w'
theorem repV_zero (w : World) : RepV w V.zero (.agg #[.int .i64 0, .int .i64 0, .string ⟨#[]⟩, .slice none 0 0]) := by
  unfold V.zero
  simp only [RepV, List.length_nil]
  exact ⟨none, 0, rfl, by unfold i64R; omega, by unfold i64R; omega, by omega, by omega, by omega, by simp only [RepL]⟩

/-- ahead of reading: the reader, the results -/
structure Dec0 (w : World) (bs : List UInt8) (W : World) : Prop where
  rd : Rd W (w.heap.size + 1 + 1) bs
  box : Box4 W w.heap.size (.int .i64 0) (.int .i64 0) (.string ⟨#[]⟩) (.slice none 0 0)
  code : Cell1 W (w.heap.size + 1) (.int .i64 0)
  by_ : Below w.heap.size w W
theorem dec0_of {w : World} {bs : List UInt8} {a : Option Addr} {cap : Nat} (hl : bs.length ≤ cap) (hl2 : bs.length ≤ 1000000) (hby : Bytes w a bs) (hlt : ∀ ad, a = some ad → ad.block < w.heap.size) :
    Dec0 w bs (((w.alloc (.cells #[.int .i64 0, .int .i64 0, .string ⟨#[]⟩, .slice none 0 0] 24)).alloc (.cells #[.int .i64 0] 28)).alloc (.cells #[.slice a bs.length cap] 58)) := by
  have hb : Below w.heap.size w (((w.alloc (.cells #[.int .i64 0, .int .i64 0, .string ⟨#[]⟩, .slice none 0 0] 24)).alloc (.cells #[.int .i64 0] 28)).alloc (.cells #[.slice a bs.length cap] 58)) :=
    (((Below.refl _ _).alloc (Nat.le_refl _) _).alloc (by simp) _).alloc (by simp; omega) _
  refine ⟨⟨a, cap, ?_, hl, hl2, hby.below hb, fun ad h => by have := hlt ad h; omega⟩, ?_, ?_, hb⟩
  · have := heap_alloc_new ((w.alloc (.cells #[.int .i64 0, .int .i64 0, .string ⟨#[]⟩, .slice none 0 0] 24)).alloc (.cells #[.int .i64 0] 28)) (.cells #[.slice a bs.length cap] 58)
    rw [size_a1, size_a1] at this
    exact this
  · unfold Box4
    rw [Below.heap_alloc _ _ _ (by rw [size_a1, size_a1]; omega), Below.heap_alloc _ _ _ (by rw [size_a1]; omega)]
    exact heap_alloc_new w _
  · unfold Cell1
    rw [Below.heap_alloc _ _ _ (by rw [size_a1, size_a1]; omega)]
    have := heap_alloc_new (w.alloc (.cells #[.int .i64 0, .int .i64 0, .string ⟨#[]⟩, .slice none 0 0] 24)) (.cells #[.int .i64 0] 28)
    rw [size_a1] at this
    exact this
theorem Cell1.kept {w w' : World} {Y : Nat} {v : Value} {row : Option Nat} (h : Cell1 w Y v) (hg : w.grownBy w' row) (hne : some Y ≠ row) : Cell1 w' Y v :=
  (hg.block Y (Array.getElem?_eq_some_iff.1 h).1 hne).trans h
theorem below_by {w W w' : World} {B : Nat} (hb : Below w.heap.size w W) (hg : W.grownBy w' (some B)) (hB : w.heap.size ≤ B) : Below w.heap.size w w' :=
  hb.grown hg hb.size (fun k hk => by cases hk; exact hB)

set_option maxRecDepth 100000 in
set_option maxHeartbeats 3200000 in
theorem decode_any (bs : List UInt8) (a : Option Addr) (cap : Nat) (w : World) (hl : bs.length ≤ cap) (hl2 : bs.length ≤ 1000000) (hby : Bytes w a bs) (hlt : ∀ ad, a = some ad → ad.block < w.heap.size) :
    Calls Try.prog 18 #[.slice a bs.length cap] w (DecPost bs w) := by
  have hmf : ∀ (fn : Fn) (first cap : Array Value) (w : World), (Instr.makeFunc fn first cap).run Try.prog w = .ok (.func fn first cap) w := fun _ _ _ _ => rfl
  have H0 := Lib.hid (dec0_of hl hl2 hby hlt)
  have HW : Hid (∀ p w, Calls Try.prog 33 #[p, .bool true] w fun e w' => e = .returned (.tuple #[]) ∧ w = w') := want_yes
  have HN : Hid (∀ p w, Calls Try.prog 33 #[p, .bool false] w fun e w' => e = .panicked codeP ∧ w = w') := want_no
  clear hby hlt
  go_enter_defers Try.func18, Try.ntmps18
  go_wp2_with fail
  generalize ((w.alloc (.cells #[.int .i64 0, .int .i64 0, .string ⟨#[]⟩, .slice none 0 0] 24)).alloc (.cells #[.int .i64 0] 28)).alloc (.cells #[.slice a bs.length cap] 58) = W3 at *
  have hv := value_any (w.heap.size + 1 + 1) 16 (Nat.le_refl _) bs W3 H0.out.rd
  rw [show (16 - ((16 : Nat) : Int)) = 0 from rfl] at hv
  refine hv.mono ?_
  clear hv
  rintro e w4 ⟨hg4, ⟨v, r, c, hd, hrb, rfl, hrep, hrd4⟩ | ⟨hd, rfl⟩⟩
  · have hX4 := H0.out.box.kept hg4 (by simp; omega)
    have hY4 := H0.out.code.kept hg4 (by simp)
    have hb4 := below_by H0.out.by_ hg4 (by omega)
    obtain ⟨k0, n0, s0, a0, len0, cap0, rfl⟩ := hrep.form
    obtain ⟨x0, x1, x2, x3⟩ := hX4.cells
    obtain ⟨f0, f1, f2, f3⟩ := hX4.free
    have hsz : w.heap.size + 1 + 1 < w4.heap.size := hrd4.lt
    obtain ⟨a4, cap4, hB4, hl4, hl42, hby4, hlt4⟩ := hrd4
    have b0 := cell_of hB4
    have HX4 := Lib.hid hX4
    have HY4 := Lib.hid hY4
    have HREP := Lib.hid hrep
    have HD := Lib.hid hd
    clear hX4 hY4 hrep hd hB4 hby4 hlt4 hl4
    have y0 := HY4.out.cell
    have yf := HY4.out.free
    have hsx : ¬ w.heap.size + 1 = w.heap.size := by omega
    by_cases hr0 : r = []
    · subst hr0
      have HDEC : Hid (dec bs = some v) := by unfold Hid dec; rw [HD.out]
      simp only [List.length_nil] at b0
      go_wp2_with fail
      with_reducible refine (HW.out _ _).mono ?_
      rintro e w5 ⟨rfl, rfl⟩
      go_wp2
      refine leaves_cons (f := 31) (args := #[.pointer (some ⟨w.heap.size, 0, none⟩), .pointer (some ⟨w.heap.size + 1, 0, none⟩)]) (by simp) (by simp [go_sem]) ?_
      refine (catch_idle _ _ _).mono ?_
      rintro e u' w9 ⟨rfl, rfl, rfl⟩
      have hX8 := (((((((HX4.out.set0 (.int .i64 k0)).set1 (.int .i64 n0)).set2 (.string s0)).set3 (.slice a0 len0 cap0)).set0 (.int .i64 k0)).set1 (.int .i64 n0)).set2 (.string s0)).set3 (.slice a0 len0 cap0)
      have hY8 : Cell1 ((((((((w4.setCell ⟨w.heap.size, 0, none⟩ (.int .i64 k0)).setCell ⟨w.heap.size, 1, none⟩ (.int .i64 n0)).setCell ⟨w.heap.size, 2, none⟩ (.string s0)).setCell ⟨w.heap.size, 3, none⟩ (.slice a0 len0 cap0)).setCell ⟨w.heap.size, 0, none⟩ (.int .i64 k0)).setCell ⟨w.heap.size, 1, none⟩ (.int .i64 n0)).setCell ⟨w.heap.size, 2, none⟩ (.string s0)).setCell ⟨w.heap.size, 3, none⟩ (.slice a0 len0 cap0)) (w.heap.size + 1) (.int .i64 0) := by
        unfold Cell1
        repeat (rw [setCell_other _ _ _ _ _ hsx])
        exact HY4.out
      have hX9 : Box4 _ _ _ _ _ _ := (setCell_other _ (w.heap.size + 1) 0 (.int .i64 0) w.heap.size (by omega)).trans hX8
      have hY9 : Cell1 _ _ _ := heap_setCell1 (u := .int .i64 0) hY8
      obtain ⟨z0, z1, z2, z3⟩ := hX9.cells
      have t0 := hY9.cell
      refine ⟨.tuple #[.agg #[.int .i64 k0, .int .i64 n0, .string s0, .slice a0 len0 cap0], .int .i64 0], by clear x0 x1 x2 x3 y0 f0 f1 f2 f3 yf; simp only [results, Try.results18]; simp [go_sem, z0, z1, z2, z3, t0], ?_⟩
      refine ⟨_, by rw [HDEC.out]; rfl, ?_, ?_⟩
      · rw [HDEC.out]
        refine RepF.rep (F := fun _ => True) (HREP.out.keep (fun _ _ => trivial) ?_)
        rintro b ⟨h1, h2⟩
        have h3 := H0.out.rd.lt
        repeat (rw [setCell_other _ _ _ _ _ (by omega)])
      · exact ((((((((hb4.setCell (p := ⟨w.heap.size, 0, none⟩) (Nat.le_refl _) _).setCell (p := ⟨w.heap.size, 1, none⟩) (Nat.le_refl _) _).setCell (p := ⟨w.heap.size, 2, none⟩) (Nat.le_refl _) _).setCell (p := ⟨w.heap.size, 3, none⟩) (Nat.le_refl _) _).setCell (p := ⟨w.heap.size, 0, none⟩) (Nat.le_refl _) _).setCell (p := ⟨w.heap.size, 1, none⟩) (Nat.le_refl _) _).setCell (p := ⟨w.heap.size, 2, none⟩) (Nat.le_refl _) _).setCell (p := ⟨w.heap.size, 3, none⟩) (Nat.le_refl _) _).setCell (p := ⟨w.heap.size + 1, 0, none⟩) (Nat.le_succ _) _
    · have HDEC : Hid (dec bs = none) := by
        unfold Hid dec
        rw [HD.out]
        cases r with
        | nil => exact absurd rfl hr0
        | cons c1 r => rfl
      have g0 : ((r.length : Int) == 0) = false := by
        cases r with
        | nil => exact absurd rfl hr0
        | cons c1 r => simp; omega
      clear hr0
      go_wp2_with fail
      with_reducible refine (HN.out _ _).mono ?_
      rintro e w5 ⟨rfl, rfl⟩
      have hX5 := (((HX4.out.set0 (.int .i64 k0)).set1 (.int .i64 n0)).set2 (.string s0)).set3 (.slice a0 len0 cap0)
      have hY5 : Cell1 ((((w4.setCell ⟨w.heap.size, 0, none⟩ (.int .i64 k0)).setCell ⟨w.heap.size, 1, none⟩ (.int .i64 n0)).setCell ⟨w.heap.size, 2, none⟩ (.string s0)).setCell ⟨w.heap.size, 3, none⟩ (.slice a0 len0 cap0)) (w.heap.size + 1) (.int .i64 0) := by
        unfold Cell1
        repeat (rw [setCell_other _ _ _ _ _ hsx])
        exact HY4.out
      have hb5 := (((hb4.setCell (p := ⟨w.heap.size, 0, none⟩) (Nat.le_refl _) (.int .i64 k0)).setCell (p := ⟨w.heap.size, 1, none⟩) (Nat.le_refl _) (.int .i64 n0)).setCell (p := ⟨w.heap.size, 2, none⟩) (Nat.le_refl _) (.string s0)).setCell (p := ⟨w.heap.size, 3, none⟩) (Nat.le_refl _) (.slice a0 len0 cap0)
      refine leaves_cons (f := 31) (args := #[.pointer (some ⟨w.heap.size, 0, none⟩), .pointer (some ⟨w.heap.size + 1, 0, none⟩)]) (by simp) (by simp [go_sem]) ?_
      refine (catch_code w.heap.size (w.heap.size + 1) _ _ _ _ _ _ hX5 hY5 (by omega)).mono ?_
      rintro e u' w9 ⟨rfl, rfl, hX9, hY9, e1, e2, e3, e4, e5⟩
      obtain ⟨x0, x1, x2, x3⟩ := hX9.cells
      have y0 := hY9.cell
      refine ⟨.tuple #[.agg #[.int .i64 0, .int .i64 0, .string ⟨#[]⟩, .slice none 0 0], .int .i64 10], by simp [results, Try.results18, go_sem, x0, x1, x2, x3, y0], ?_⟩
      refine ⟨_, by rw [HDEC.out]; rfl, by rw [HDEC.out]; exact repV_zero _, ?_⟩
      exact hb5.trans ⟨e1, e2, e3, Nat.le_of_eq e4.symm, fun b hb => e5 b (by omega) (by omega)⟩
  · have HDEC : Hid (dec bs = none) := by unfold Hid dec; rw [hd]
    have hX4 := H0.out.box.kept hg4 (by simp; omega)
    have hY4 := H0.out.code.kept hg4 (by simp)
    refine leaves_cons (f := 31) (args := #[.pointer (some ⟨w.heap.size, 0, none⟩), .pointer (some ⟨w.heap.size + 1, 0, none⟩)]) (by simp) (by simp [go_sem]) ?_
    refine (catch_code w.heap.size (w.heap.size + 1) _ _ _ _ _ _ hX4 hY4 (by omega)).mono ?_
    rintro e u' w9 ⟨rfl, rfl, hX9, hY9, e1, e2, e3, e4, e5⟩
    obtain ⟨x0, x1, x2, x3⟩ := hX9.cells
    have y0 := hY9.cell
    refine ⟨.tuple #[.agg #[.int .i64 0, .int .i64 0, .string ⟨#[]⟩, .slice none 0 0], .int .i64 10], by simp [results, Try.results18, go_sem, x0, x1, x2, x3, y0], ?_⟩
    refine ⟨_, by rw [HDEC.out]; rfl, by rw [HDEC.out]; exact repV_zero _, ?_⟩
    exact (below_by H0.out.by_ hg4 (by omega)).trans ⟨e1, e2, e3, Nat.le_of_eq e4.symm, fun b hb => e5 b (by omega) (by omega)⟩
end Go.Proofs.Ytedkoifbjmemdaa
