import Derived.Test.YthidfoohhhkobaaH7
import Derived.Defers
import Derived.Recover
import Derived.Test.YthidfoohhhkobaaH6
import Derived.Test.YthidfoohhhkobaaH4
import Derived.Lib.Bytealg
import Derived.Lib.Walk
namespace Go.Proofs.Ythidfoohhhkobaa.Cd
set_option linter.unusedSimpArgs false
set_option linter.unusedVariables false
open Go.RowKit
def Cell1 (w : World) (Y : Nat) (v : Value) : Prop := w.heap[Y]? = some (.cells #[v] 48 (0, 0))
theorem Cell1.cell {w : World} {Y : Nat} {v : Value} (h : Cell1 w Y v) : w.cell? ⟨Y, 0, none⟩ = some v := cell_of h
theorem Cell1.free {w : World} {Y : Nat} {v : Value} (h : Cell1 w Y v) : w.frozen? ⟨Y, 0, none⟩ = false := by unfold Cell1 at h; simp [World.frozen?, h]
set_option maxRecDepth 100000 in
set_option maxHeartbeats 1000000 in
theorem catch_idle (pv pe : Value) (w : World) :
    CallsD Try.prog 73 #[pv, pe] .returning w fun e u' w' => e = .returned (.tuple #[]) ∧ u' = .returning ∧ w' = w := by
  refine callsD_of_wpS Try.func73 rfl fun c₀ cs hu => ?_
  apply wpS_seq
  apply wpS_region
  simp [wpOpsS, go_sem, recoverD, hu, Try.ntmps73, Exit.thenS]
  apply wpS_seq
  apply wpS_region
  simp [wpOpsS, go_sem, Exit.thenS]
  refine wpS_cond (t := false) (by simp [Act.eval, Array.replicate]) ?_
  simp only [Bool.false_eq_true, if_false]
  refine wpS_of_wp (wp_skip ?_)
  cases c₀
  simp_all [bodyPostS, results, Try.results73]
theorem catch_world {X Y : Nat} {c0 c1 c2 c3 ev : Value} {w : World} (hX : Box4 w X c0 c1 c2 c3) (hY : Cell1 w Y ev) (hne : X ≠ Y) {W : World}
    (hW : W = (((((w.setCell ⟨X, 0, none⟩ (.int .i64 0)).setCell ⟨X, 1, none⟩ (.int .i64 0)).setCell ⟨X, 2, none⟩ (.string ⟨#[]⟩)).setCell ⟨X, 3, none⟩ (.slice none 0 0)).setCell ⟨Y, 0, none⟩ (.int .i64 10)) := by rfl) :
    Box4 W.drew X (.int .i64 0) (.int .i64 0) (.string ⟨#[]⟩) (.slice none 0 0) ∧ Cell1 W.drew Y (.int .i64 10) ∧ W.drew.os = w.os ∧ W.drew.tape = w.tape ∧ W.drew.output = w.output ∧ W.drew.heap.size = w.heap.size ∧ ∀ b, ¬ b = X → ¬ b = Y → W.drew.heap[b]? = w.heap[b]? := by
  have hne' : ¬ Y = X := fun e => hne e.symm
  have hX4 := (((hX.set0 (.int .i64 0)).set1 (.int .i64 0)).set2 (.string ⟨#[]⟩)).set3 (.slice none 0 0)
  have hY4 : Cell1 ((((w.setCell ⟨X, 0, none⟩ (.int .i64 0)).setCell ⟨X, 1, none⟩ (.int .i64 0)).setCell ⟨X, 2, none⟩ (.string ⟨#[]⟩)).setCell ⟨X, 3, none⟩ (.slice none 0 0)) Y ev := by
    unfold Cell1
    rw [setCell_other _ _ _ _ _ hne', setCell_other _ _ _ _ _ hne', setCell_other _ _ _ _ _ hne', setCell_other _ _ _ _ _ hne']
    exact hY
  have hX5 := (setCell_other _ Y 0 (.int .i64 10) X hne).trans hX4
  have hY5 := heap_setCell1 (u := .int .i64 10) hY4
  rw [← hW] at hX5 hY5
  have h5 : ∀ b, ¬ b = X → ¬ b = Y → W.heap[b]? = w.heap[b]? := by
    intro b h1 h2
    rw [hW, setCell_other _ _ _ _ _ h2, setCell_other _ _ _ _ _ h1, setCell_other _ _ _ _ _ h1, setCell_other _ _ _ _ _ h1, setCell_other _ _ _ _ _ h1]
  have g1 : W.os = w.os := by rw [hW]; simp only [World.setCell]
  have g2 : W.tape = w.tape := by rw [hW]; simp only [World.setCell]
  have g3 : W.output = w.output := by rw [hW]; simp only [World.setCell]
  have g4 : W.heap.size = w.heap.size := by rw [hW]; simp [World.setCell]
  exact ⟨hX5, hY5, g1, g2, g3, g4, h5⟩
theorem typeAssert_code : ∀ w, (Instr.typeAssert (.iface 48 (.int .i64 10)) 20 48 false).run Try.prog w = .ok (.int .i64 10) w := fun _ => by kernel_rfl
set_option maxRecDepth 100000 in
set_option maxHeartbeats 1000000 in
theorem catch_code (X Y : Nat) (c0 c1 c2 c3 ev : Value) (w : World) (hX : Box4 w X c0 c1 c2 c3) (hY : Cell1 w Y ev) (hne : X ≠ Y) :
    CallsD Try.prog 73 #[.pointer (some ⟨X, 0, none⟩), .pointer (some ⟨Y, 0, none⟩)] (.panicking ({ v := .iface 48 (.int .i64 10), recovered := false } :: [])) w fun e u' w' =>
      e = .returned (.tuple #[]) ∧ u' = .panicking ({ v := .iface 48 (.int .i64 10), recovered := true } :: []) ∧ Box4 w' X (.int .i64 0) (.int .i64 0) (.string ⟨#[]⟩) (.slice none 0 0) ∧ Cell1 w' Y (.int .i64 10) ∧ (w'.os = w.os ∧ w'.tape = w.tape ∧ w'.output = w.output ∧ w'.heap.size = w.heap.size ∧ ∀ b, b ≠ X → b ≠ Y → w'.heap[b]? = w.heap[b]?) := by
  refine callsD_of_wpS Try.func73 rfl fun c₀ cs hu => ?_
  apply wpS_seq
  apply wpS_region
  simp [wpOpsS, go_sem, recoverD, hu, Try.ntmps73, Exit.thenS]
  apply wpS_seq
  apply wpS_region
  simp [wpOpsS, go_sem, Exit.thenS]
  refine wpS_cond (t := true) (by simp [Act.eval, Array.replicate]) ?_
  simp only [if_true]
  refine wpS_of_wp ?_
  simp only [Array.replicate_succ, Array.replicate_zero, List.push_toArray, List.append_toArray, List.nil_append, List.cons_append, List.setIfInBounds_toArray, List.set_cons_zero, List.set_cons_succ]
  obtain ⟨x0, x1, x2, x3⟩ := hX.cells
  obtain ⟨f0, f1, f2, f3⟩ := hX.free
  have y0 := hY.cell
  have yf := hY.free
  have hne' : ¬ Y = X := fun e => hne e.symm
  have hta := typeAssert_code
  go_region
  obtain ⟨hX5, hY5, e1, e2, e3, e4, e5⟩ := catch_world hX hY hne
  generalize (((((w.setCell ⟨X, 0, none⟩ (.int .i64 0)).setCell ⟨X, 1, none⟩ (.int .i64 0)).setCell ⟨X, 2, none⟩ (.string ⟨#[]⟩)).setCell ⟨X, 3, none⟩ (.slice none 0 0)).setCell ⟨Y, 0, none⟩ (.int .i64 10)) = W5 at *
  show bodyPostS _ _ _ _ _ _ _ _ _
  refine ⟨rfl, .panicking [{ v := .iface 48 (.int .i64 10), recovered := true }], rfl, .tuple #[], by simp [results, Try.results73], ?_⟩
  exact ⟨rfl, rfl, hX5, hY5, e1, e2, e3, e4, e5⟩

def V.zero : V := .mk 0 0 [] []
def DecPost (bs : List UInt8) (w : World) (e : Ending) (w' : World) : Prop :=
  ∃ c, e = .returned (.tuple #[c, .int .i64 (if (dec bs).isSome then 0 else 10)]) ∧ RepF (fun b => w.heap.size ≤ b ∧ b < w'.heap.size) w' ((dec bs).getD V.zero) c ∧ Below w.heap.size w w'
theorem repV_zero (F : Nat → Prop) (w : World) : RepF F w V.zero (.agg #[.int .i64 0, .int .i64 0, .string ⟨#[]⟩, .slice none 0 0]) := by
  unfold V.zero
  simp only [RepF, List.length_nil]
  exact ⟨none, 0, rfl, by unfold i64R; omega, by unfold i64R; omega, by omega, by omega, by omega, by simp only [RepFL]⟩

structure Dec0 (w : World) (bs : List UInt8) (W : World) : Prop where
  rd : Rd W (w.heap.size + 1 + 1) bs
  box : Box4 W w.heap.size (.int .i64 0) (.int .i64 0) (.string ⟨#[]⟩) (.slice none 0 0)
  code : Cell1 W (w.heap.size + 1) (.int .i64 0)
  by_ : Below w.heap.size w W
theorem dec0_of {w : World} {bs : List UInt8} {a : Option Addr} {cap : Nat} (hl : bs.length ≤ cap) (hl2 : bs.length ≤ 1000000) (hby : Bytes w a bs) (hlt : ∀ ad, a = some ad → ad.block < w.heap.size) :
    Dec0 w bs (((w.alloc (.cells #[.int .i64 0, .int .i64 0, .string ⟨#[]⟩, .slice none 0 0] 85)).alloc (.cells #[.int .i64 0] 48)).alloc (.cells #[.slice a bs.length cap] 134)) := by
  have hb : Below w.heap.size w (((w.alloc (.cells #[.int .i64 0, .int .i64 0, .string ⟨#[]⟩, .slice none 0 0] 85)).alloc (.cells #[.int .i64 0] 48)).alloc (.cells #[.slice a bs.length cap] 134)) :=
    (((Below.refl _ _).alloc (Nat.le_refl _) _).alloc (by simp) _).alloc (by simp; omega) _
  refine ⟨⟨a, cap, ?_, hl, hl2, hby.below hb, fun ad h => by have := hlt ad h; omega⟩, ?_, ?_, hb⟩
  · have := heap_alloc_new ((w.alloc (.cells #[.int .i64 0, .int .i64 0, .string ⟨#[]⟩, .slice none 0 0] 85)).alloc (.cells #[.int .i64 0] 48)) (.cells #[.slice a bs.length cap] 134)
    rw [size_a1, size_a1] at this
    exact this
  · unfold Box4
    rw [Below.heap_alloc _ _ _ (by rw [size_a1, size_a1]; omega), Below.heap_alloc _ _ _ (by rw [size_a1]; omega)]
    exact heap_alloc_new w _
  · unfold Cell1
    rw [Below.heap_alloc _ _ _ (by rw [size_a1, size_a1]; omega)]
    have := heap_alloc_new (w.alloc (.cells #[.int .i64 0, .int .i64 0, .string ⟨#[]⟩, .slice none 0 0] 85)) (.cells #[.int .i64 0] 48)
    rw [size_a1] at this
    exact this
theorem Cell1.kept {w w' : World} {Y : Nat} {v : Value} {row : Option Nat} (h : Cell1 w Y v) (hg : w.grownBy w' row) (hne : some Y ≠ row) : Cell1 w' Y v :=
  (hg.block Y (Array.getElem?_eq_some_iff.1 h).1 hne).trans h
theorem below_by {w W w' : World} {B : Nat} (hb : Below w.heap.size w W) (hg : W.grownBy w' (some B)) (hB : w.heap.size ≤ B) : Below w.heap.size w w' :=
  hb.grown hg hb.size (fun k hk => by cases hk; exact hB)

set_option maxRecDepth 100000 in
set_option maxHeartbeats 3200000 in
theorem decode_any (bs : List UInt8) (a : Option Addr) (cap : Nat) (w : World) (hl : bs.length ≤ cap) (hl2 : bs.length ≤ 1000000) (hby : Bytes w a bs) (hlt : ∀ ad, a = some ad → ad.block < w.heap.size) :
    Calls Try.prog 56 #[.slice a bs.length cap] w (DecPost bs w) := by
  have hmf : ∀ (fn : Fn) (first cap : Array Value) (w : World), (Instr.makeFunc fn first cap).run Try.prog w = .ok (.func fn first cap) w := fun _ _ _ _ => rfl
  have H0 := Lib.hid (dec0_of hl hl2 hby hlt)
  have HW : Hid (∀ p w, Calls Try.prog 75 #[p, .bool true] w fun e w' => e = .returned (.tuple #[]) ∧ w = w') := want_yes
  have HN : Hid (∀ p w, Calls Try.prog 75 #[p, .bool false] w fun e w' => e = .panicked codeP ∧ w = w') := want_no
  clear hby hlt
  go_enter_defers Try.func56, Try.ntmps56
  go_wp2_with fail
  generalize ((w.alloc (.cells #[.int .i64 0, .int .i64 0, .string ⟨#[]⟩, .slice none 0 0] 85)).alloc (.cells #[.int .i64 0] 48)).alloc (.cells #[.slice a bs.length cap] 134) = W3 at *
  have hv := value_any (w.heap.size + 1 + 1) 16 (Nat.le_refl _) bs W3 H0.out.rd
  rw [show (16 - ((16 : Nat) : Int)) = 0 from rfl] at hv
  refine hv.mono ?_
  clear hv
  rintro e w4 ⟨hg4, ⟨v, r, c, hd, hrb, rfl, hrep, hrd4⟩ | ⟨hd, rfl⟩⟩
  · have hX4 := H0.out.box.kept hg4 (by simp; omega)
    have hY4 := H0.out.code.kept hg4 (by simp)
    have hb4 := below_by H0.out.by_ hg4 (by omega)
    obtain ⟨k0, n0, s0, a0, len0, cap0, rfl⟩ := hrep.form
    obtain ⟨x0, x1, x2, x3⟩ := hX4.cells
    obtain ⟨f0, f1, f2, f3⟩ := hX4.free
    have hsz : w.heap.size + 1 + 1 < w4.heap.size := hrd4.lt
    obtain ⟨a4, cap4, hB4, hl4, hl42, hby4, hlt4⟩ := hrd4
    have b0 := cell_of hB4
    have HX4 := Lib.hid hX4
    have HY4 := Lib.hid hY4
    have HREP := Lib.hid hrep
    have HD := Lib.hid hd
    clear hX4 hY4 hrep hd hB4 hby4 hlt4 hl4
    have y0 := HY4.out.cell
    have yf := HY4.out.free
    have hsx : ¬ w.heap.size + 1 = w.heap.size := by omega
    by_cases hr0 : r = []
    · subst hr0
      have HDEC : Hid (dec bs = some v) := by unfold Hid dec; rw [HD.out]
      simp only [List.length_nil] at b0
      go_wp2_with fail
      with_reducible refine (HW.out _ _).mono ?_
      rintro e w5 ⟨rfl, rfl⟩
      go_wp2
      refine leaves_cons (f := 73) (args := #[.pointer (some ⟨w.heap.size, 0, none⟩), .pointer (some ⟨w.heap.size + 1, 0, none⟩)]) (by simp) (by simp [go_sem]) ?_
      refine (catch_idle _ _ _).mono ?_
      rintro e u' w9 ⟨rfl, rfl, rfl⟩
      have hX8 := (((((((HX4.out.set0 (.int .i64 k0)).set1 (.int .i64 n0)).set2 (.string s0)).set3 (.slice a0 len0 cap0)).set0 (.int .i64 k0)).set1 (.int .i64 n0)).set2 (.string s0)).set3 (.slice a0 len0 cap0)
      have hY8 : Cell1 ((((((((w4.setCell ⟨w.heap.size, 0, none⟩ (.int .i64 k0)).setCell ⟨w.heap.size, 1, none⟩ (.int .i64 n0)).setCell ⟨w.heap.size, 2, none⟩ (.string s0)).setCell ⟨w.heap.size, 3, none⟩ (.slice a0 len0 cap0)).setCell ⟨w.heap.size, 0, none⟩ (.int .i64 k0)).setCell ⟨w.heap.size, 1, none⟩ (.int .i64 n0)).setCell ⟨w.heap.size, 2, none⟩ (.string s0)).setCell ⟨w.heap.size, 3, none⟩ (.slice a0 len0 cap0)) (w.heap.size + 1) (.int .i64 0) := by
        unfold Cell1
        repeat (rw [setCell_other _ _ _ _ _ hsx])
        exact HY4.out
      have hX9 : Box4 _ _ _ _ _ _ := (setCell_other _ (w.heap.size + 1) 0 (.int .i64 0) w.heap.size (by omega)).trans hX8
      have hY9 : Cell1 _ _ _ := heap_setCell1 (u := .int .i64 0) hY8
      obtain ⟨z0, z1, z2, z3⟩ := hX9.cells
      have t0 := hY9.cell
      refine ⟨.tuple #[.agg #[.int .i64 k0, .int .i64 n0, .string s0, .slice a0 len0 cap0], .int .i64 0], by clear x0 x1 x2 x3 y0 f0 f1 f2 f3 yf; simp only [results, Try.results56]; simp [go_sem, z0, z1, z2, z3, t0], ?_⟩
      refine ⟨_, by rw [HDEC.out]; rfl, ?_, ?_⟩
      · rw [HDEC.out]
        have h3' := H0.out.rd.lt
        refine HREP.out.keep (fun b hb => ⟨by omega, by simpa using hb.2⟩) ?_
        rintro b ⟨h1, h2⟩
        have h3 := H0.out.rd.lt
        repeat (rw [setCell_other _ _ _ _ _ (by omega)])
      · exact ((((((((hb4.setCell (p := ⟨w.heap.size, 0, none⟩) (Nat.le_refl _) _).setCell (p := ⟨w.heap.size, 1, none⟩) (Nat.le_refl _) _).setCell (p := ⟨w.heap.size, 2, none⟩) (Nat.le_refl _) _).setCell (p := ⟨w.heap.size, 3, none⟩) (Nat.le_refl _) _).setCell (p := ⟨w.heap.size, 0, none⟩) (Nat.le_refl _) _).setCell (p := ⟨w.heap.size, 1, none⟩) (Nat.le_refl _) _).setCell (p := ⟨w.heap.size, 2, none⟩) (Nat.le_refl _) _).setCell (p := ⟨w.heap.size, 3, none⟩) (Nat.le_refl _) _).setCell (p := ⟨w.heap.size + 1, 0, none⟩) (Nat.le_succ _) _
    · have HDEC : Hid (dec bs = none) := by
        unfold Hid dec
        rw [HD.out]
        cases r with
        | nil => exact absurd rfl hr0
        | cons c1 r => rfl
      have g0 : ((r.length : Int) == 0) = false := by
        cases r with
        | nil => exact absurd rfl hr0
        | cons c1 r => simp; omega
      clear hr0
      go_wp2_with fail
      with_reducible refine (HN.out _ _).mono ?_
      rintro e w5 ⟨rfl, rfl⟩
      have hX5 := (((HX4.out.set0 (.int .i64 k0)).set1 (.int .i64 n0)).set2 (.string s0)).set3 (.slice a0 len0 cap0)
      have hY5 : Cell1 ((((w4.setCell ⟨w.heap.size, 0, none⟩ (.int .i64 k0)).setCell ⟨w.heap.size, 1, none⟩ (.int .i64 n0)).setCell ⟨w.heap.size, 2, none⟩ (.string s0)).setCell ⟨w.heap.size, 3, none⟩ (.slice a0 len0 cap0)) (w.heap.size + 1) (.int .i64 0) := by
        unfold Cell1
        repeat (rw [setCell_other _ _ _ _ _ hsx])
        exact HY4.out
      have hb5 := (((hb4.setCell (p := ⟨w.heap.size, 0, none⟩) (Nat.le_refl _) (.int .i64 k0)).setCell (p := ⟨w.heap.size, 1, none⟩) (Nat.le_refl _) (.int .i64 n0)).setCell (p := ⟨w.heap.size, 2, none⟩) (Nat.le_refl _) (.string s0)).setCell (p := ⟨w.heap.size, 3, none⟩) (Nat.le_refl _) (.slice a0 len0 cap0)
      refine leaves_cons (f := 73) (args := #[.pointer (some ⟨w.heap.size, 0, none⟩), .pointer (some ⟨w.heap.size + 1, 0, none⟩)]) (by simp) (by simp [go_sem]) ?_
      refine (catch_code w.heap.size (w.heap.size + 1) _ _ _ _ _ _ hX5 hY5 (by omega)).mono ?_
      rintro e u' w9 ⟨rfl, rfl, hX9, hY9, e1, e2, e3, e4, e5⟩
      obtain ⟨x0, x1, x2, x3⟩ := hX9.cells
      have y0 := hY9.cell
      refine ⟨.tuple #[.agg #[.int .i64 0, .int .i64 0, .string ⟨#[]⟩, .slice none 0 0], .int .i64 10], by simp [results, Try.results56, go_sem, x0, x1, x2, x3, y0], ?_⟩
      refine ⟨_, by rw [HDEC.out]; rfl, by rw [HDEC.out]; exact repV_zero _ _, ?_⟩
      exact hb5.trans ⟨e1, e2, e3, Nat.le_of_eq e4.symm, fun b hb => e5 b (by omega) (by omega)⟩
  · have HDEC : Hid (dec bs = none) := by unfold Hid dec; rw [hd]
    have hX4 := H0.out.box.kept hg4 (by simp; omega)
    have hY4 := H0.out.code.kept hg4 (by simp)
    refine leaves_cons (f := 73) (args := #[.pointer (some ⟨w.heap.size, 0, none⟩), .pointer (some ⟨w.heap.size + 1, 0, none⟩)]) (by simp) (by simp [go_sem]) ?_
    refine (catch_code w.heap.size (w.heap.size + 1) _ _ _ _ _ _ hX4 hY4 (by omega)).mono ?_
    rintro e u' w9 ⟨rfl, rfl, hX9, hY9, e1, e2, e3, e4, e5⟩
    obtain ⟨x0, x1, x2, x3⟩ := hX9.cells
    have y0 := hY9.cell
    refine ⟨.tuple #[.agg #[.int .i64 0, .int .i64 0, .string ⟨#[]⟩, .slice none 0 0], .int .i64 10], by simp [results, Try.results56, go_sem, x0, x1, x2, x3, y0], ?_⟩
    refine ⟨_, by rw [HDEC.out]; rfl, by rw [HDEC.out]; exact repV_zero _ _, ?_⟩
    exact (below_by H0.out.by_ hg4 (by omega)).trans ⟨e1, e2, e3, Nat.le_of_eq e4.symm, fun b hb => e5 b (by omega) (by omega)⟩
structure Dec0n (w : World) (a : Option Addr) (cap : Nat) (W : World) : Prop where
  rd : W.heap[w.heap.size + 1 + 1]? = some (.cells #[.slice a 0 cap] 134 (0, 0))
  box : Box4 W w.heap.size (.int .i64 0) (.int .i64 0) (.string ⟨#[]⟩) (.slice none 0 0)
  code : Cell1 W (w.heap.size + 1) (.int .i64 0)
  by_ : Below w.heap.size w W
theorem dec0n_of (w : World) (a : Option Addr) (cap : Nat) :
    Dec0n w a cap (((w.alloc (.cells #[.int .i64 0, .int .i64 0, .string ⟨#[]⟩, .slice none 0 0] 85)).alloc (.cells #[.int .i64 0] 48)).alloc (.cells #[.slice a 0 cap] 134)) := by
  have hb : Below w.heap.size w (((w.alloc (.cells #[.int .i64 0, .int .i64 0, .string ⟨#[]⟩, .slice none 0 0] 85)).alloc (.cells #[.int .i64 0] 48)).alloc (.cells #[.slice a 0 cap] 134)) :=
    (((Below.refl _ _).alloc (Nat.le_refl _) _).alloc (by simp) _).alloc (by simp; omega) _
  refine ⟨?_, ?_, ?_, hb⟩
  · have := heap_alloc_new ((w.alloc (.cells #[.int .i64 0, .int .i64 0, .string ⟨#[]⟩, .slice none 0 0] 85)).alloc (.cells #[.int .i64 0] 48)) (.cells #[.slice a 0 cap] 134)
    rw [size_a1, size_a1] at this
    exact this
  · unfold Box4
    rw [Below.heap_alloc _ _ _ (by rw [size_a1, size_a1]; omega), Below.heap_alloc _ _ _ (by rw [size_a1]; omega)]
    exact heap_alloc_new w _
  · unfold Cell1
    rw [Below.heap_alloc _ _ _ (by rw [size_a1, size_a1]; omega)]
    have := heap_alloc_new (w.alloc (.cells #[.int .i64 0, .int .i64 0, .string ⟨#[]⟩, .slice none 0 0] 85)) (.cells #[.int .i64 0] 48)
    rw [size_a1] at this
    exact this
set_option maxRecDepth 100000 in
set_option maxHeartbeats 3200000 in
theorem value_none (B : Nat) (a : Option Addr) (cap : Nat) (w : World) (hB : w.heap[B]? = some (.cells #[.slice a 0 cap] 134 (0, 0))) (dep : Int) :
    Calls Try.prog 74 #[.pointer (some ⟨B, 0, none⟩), .int .i64 dep] w fun e w' => e = .panicked codeP ∧ w.grownBy w' (some B) := by
  have hBl : B < w.heap.size := (Array.getElem?_eq_some_iff.1 hB).1
  have HR := Lib.hid ((Below.heap_alloc w (.cells #[.int .i64 0, .int .i64 0, .string ⟨#[]⟩, .slice none 0 0] 85) B hBl).trans hB)
  clear hB
  go_enter Try.func74, Try.ntmps74
  go_wp2_with fail
  refine (take_no B a 0 cap 1 _ HR.out (by simp)).mono ?_
  rintro e w1 ⟨rfl, rfl⟩
  exact ⟨rfl, rfl, World.grownBy_alloc _ _ _⟩
set_option maxRecDepth 100000 in
set_option maxHeartbeats 3200000 in
theorem decode_none (a : Option Addr) (cap : Nat) (w : World) :
    Calls Try.prog 56 #[.slice a 0 cap] w (DecPost [] w) := by
  have hmf : ∀ (fn : Fn) (first cap : Array Value) (w : World), (Instr.makeFunc fn first cap).run Try.prog w = .ok (.func fn first cap) w := fun _ _ _ _ => rfl
  have H0 := Lib.hid (dec0n_of w a cap)
  have HW : Hid (∀ p w, Calls Try.prog 75 #[p, .bool true] w fun e w' => e = .returned (.tuple #[]) ∧ w = w') := want_yes
  have HN : Hid (∀ p w, Calls Try.prog 75 #[p, .bool false] w fun e w' => e = .panicked codeP ∧ w = w') := want_no
  go_enter_defers Try.func56, Try.ntmps56
  go_wp2_with fail
  generalize ((w.alloc (.cells #[.int .i64 0, .int .i64 0, .string ⟨#[]⟩, .slice none 0 0] 85)).alloc (.cells #[.int .i64 0] 48)).alloc (.cells #[.slice a 0 cap] 134) = W3 at *
  have hv := value_none (w.heap.size + 1 + 1) a cap W3 H0.out.rd 0
  refine hv.mono ?_
  clear hv
  rintro e w4 ⟨rfl, hg4⟩
  have HDEC : Hid (dec [] = none) := by unfold Hid dec; rw [decV_nil]
  have hX4 := H0.out.box.kept hg4 (by simp; omega)
  have hY4 := H0.out.code.kept hg4 (by simp)
  refine leaves_cons (f := 73) (args := #[.pointer (some ⟨w.heap.size, 0, none⟩), .pointer (some ⟨w.heap.size + 1, 0, none⟩)]) (by simp) (by simp [go_sem]) ?_
  refine (catch_code w.heap.size (w.heap.size + 1) _ _ _ _ _ _ hX4 hY4 (by omega)).mono ?_
  rintro e u' w9 ⟨rfl, rfl, hX9, hY9, e1, e2, e3, e4, e5⟩
  obtain ⟨x0, x1, x2, x3⟩ := hX9.cells
  have y0 := hY9.cell
  refine ⟨.tuple #[.agg #[.int .i64 0, .int .i64 0, .string ⟨#[]⟩, .slice none 0 0], .int .i64 10], by simp [results, Try.results56, go_sem, x0, x1, x2, x3, y0], ?_⟩
  refine ⟨_, by rw [HDEC.out]; rfl, by rw [HDEC.out]; exact repV_zero _ _, ?_⟩
  exact (below_by H0.out.by_ hg4 (by omega)).trans ⟨e1, e2, e3, Nat.le_of_eq e4.symm, fun b hb => e5 b (by omega) (by omega)⟩
end Go.Proofs.Ythidfoohhhkobaa.Cd


namespace Go.Proofs.Ythidfoohhhkobaa.Cd
set_option linter.unusedSimpArgs false
set_option linter.unusedVariables false
open Go.RowKit
attribute [local go_sem ↓] Go.wp_at_zero Go.wp_at_succ
theorem ownsRow_weak {w : World} {base base' : Nat} {e : TypeId} {size : Nat} {v : Value} {n : Nat} {xs : List Value} (h : w.ownsRow base e size v n xs) (hb : base' ≤ base) : w.ownsRow base' e size v n xs :=
  ⟨h.1, h.2.imp id fun ⟨g, cap, cur, a1, a2, a3⟩ => ⟨g, cap, cur, a1, Nat.le_trans hb a2, a3⟩⟩
theorem ownsRow_below {w w' : World} {base : Nat} {e : TypeId} {size : Nat} {v : Value} {n : Nat} {xs : List Value} (h : w.ownsRow base e size v n xs) (hb : Below w.heap.size w w') : w'.ownsRow base e size v n xs :=
  h.kept (⟨hb.os, hb.tape, hb.output, hb.size, fun k hk _ => hb.block k hk⟩ : World.grownBy w w' none) (by cases hv : v.ownBlock <;> simp)
theorem own_lit1 (w : World) (b : UInt8) (n : Int) (h : n = (b.toNat : Int)) (base : Nat) (hb : base ≤ w.heap.size) : (w.alloc (.cells #[.int .u8 n] 5)).ownsRow base 5 1 (.slice (some ⟨w.heap.size, 0, none⟩) 1 1) [b].length ([b].map byteV) := by
  subst h; exact World.ownsRow_lit w #[byteV b] 1 hb (by unfold maxLen; omega) rfl

set_option maxRecDepth 100000 in
set_option maxHeartbeats 1000000 in
theorem rencode_1 (n : Int) (s : List UInt8) (l : List V) (a : Option Addr) (cap : Nat) (w : World) (hn : i64R n) :
    Calls Try.prog 59 #[.agg #[.int .i64 1, .int .i64 n, .string ⟨s.toArray⟩, .slice a l.length cap]] w (Fresh (V.mk 1 n s l).enc w) := by
  have e0 : (V.mk 1 n s l).enc = [1] ++ num (zz n) := by simp [V.enc]
  rw [e0]
  have hu := fun w => runsigned_any n w hn
  have hm := fun w => rnumeral (zz n) w (zz_lt hn)
  have hpos := num_pos (zz n)
  have hle := num_le (zz n)
  generalize num (zz n) = xs at *
  have HU := Lib.hid hu
  have HM := Lib.hid hm
  clear hu hm e0 hn
  go_enter Try.func59, Try.ntmps59
  go_wp2_with fail
  refine (HU.out _).mono ?_
  rintro e w' ⟨rfl, rfl⟩
  go_wp2_with fail
  refine (HM.out _).mono ?_
  rintro e w1 ⟨v1, rfl, hown1, hb1⟩
  have hown0 := ownsRow_below (own_lit1 (w.alloc (Obj.cells #[.int .i64 1, .int .i64 n, .string ⟨s.toArray⟩, .slice a l.length cap] 85)) 1 1 rfl w.heap.size (by simp)) hb1
  have HO0 := Lib.hid hown0
  have HO1 := Lib.hid hown1
  have K3 := Lib.hid (maxLen_le (n := [(1 : UInt8)].length + xs.length) (by simp; omega))
  have K4 := Lib.hid (show ([(1 : UInt8)].length + xs.length) * 1 ≤ 140737488355328 by simp; omega)
  have hsz : w.heap.size ≤ w1.heap.size := by have := hb1.size; simp at this; omega
  have hbb : Below w.heap.size w w1 := (((Below.refl _ _).alloc (Nat.le_refl _) _).alloc (by simp) _).trans (hb1.mono (by simp; omega))
  clear hown0 hown1 hb1
  simp only [size_a1] at HO0
  go_wp2_with (at_builtin; refine wpList_app rfl _ _ rfl elemB w.heap.size _ _ _ rfl HO0.out _ _ _ rfl (Source.own HO1.out (byteV_one _)) (.inl rfl) K3.out K4.out hsz ?_; intro v2 w2 hg2)
  go_ret
  have h3 := grew_more (bs := [1]) rfl rfl rfl hg2
  exact ⟨v2, rfl, h3.own, hbb.trans (h3.below hsz (fun g hg => (HO0.out.lt g hg).1))⟩

theorem own2_of {w w1 : World} {o : Obj} {b : UInt8} {n : Int} (hn : n = (b.toNat : Int)) (hb : Below ((w.alloc o).alloc (.cells #[.int .u8 n] 5)).drew.heap.size ((w.alloc o).alloc (.cells #[.int .u8 n] 5)).drew w1) :
    w1.ownsRow (w.heap.size + 1) 5 1 (.slice (some ⟨w.heap.size + 1, 0, none⟩) 1 1) [b].length ([b].map byteV) := by
  have h := own_lit1 (w.alloc o) b n hn (w.heap.size + 1) (by simp)
  rw [size_a1] at h
  exact ownsRow_below h.drew hb
theorem sz_of {w w1 : World} {o o' : Obj} (hb : Below ((w.alloc o).alloc o').drew.heap.size ((w.alloc o).alloc o').drew w1) : w.heap.size + 1 ≤ w1.heap.size := by
  have := hb.size; rw [size_a2d] at this; omega

theorem facts1 {w w1 : World} {o : Obj} {b : UInt8} {n : Int} {v1 : Value} {xs : List UInt8} {B : Nat} (hn : n = (b.toNat : Int)) (hb : Below ((w.alloc o).alloc (.cells #[.int .u8 n] 5)).drew.heap.size ((w.alloc o).alloc (.cells #[.int .u8 n] 5)).drew w1)
    (ho : w1.ownsRow B 5 1 v1 xs.length (xs.map byteV)) :
    Hid (w1.ownsRow (w.heap.size + 1) 5 1 (.slice (some ⟨w.heap.size + 1, 0, none⟩) 1 1) [b].length ([b].map byteV)) ∧ Hid (Source Try.prog 23 23 1 w1 v1 xs.length (xs.map byteV)) ∧ w.heap.size + 1 ≤ w1.heap.size ∧ Below w.heap.size w w1 :=
  ⟨own2_of hn hb, Source.own ho (byteV_one _), sz_of hb, ((((Below.refl _ _).alloc (Nat.le_refl _) _).alloc (by simp) _).drew).trans (hb.mono (by rw [size_a2d]; omega))⟩
theorem facts2 {w w1 : World} {o : Obj} {b : UInt8} {n : Int} {v1 : Value} {xs : List UInt8} {B : Nat} (hn : n = (b.toNat : Int)) (hb : Below (w.alloc o).drew.heap.size (w.alloc o).drew w1)
    (ho : w1.ownsRow B 5 1 v1 xs.length (xs.map byteV)) :
    Hid ((w1.alloc (.cells #[.int .u8 n] 5)).ownsRow (w.heap.size + 1) 5 1 (.slice (some ⟨w1.heap.size, 0, none⟩) 1 1) [b].length ([b].map byteV)) ∧ Hid (Source Try.prog 23 23 1 (w1.alloc (.cells #[.int .u8 n] 5)) v1 xs.length (xs.map byteV)) ∧ w.heap.size + 1 ≤ (w1.alloc (.cells #[.int .u8 n] 5)).heap.size ∧ Below w.heap.size w (w1.alloc (.cells #[.int .u8 n] 5)) := by
  have hs := hb.size
  rw [size_a1d] at hs
  refine ⟨own_lit1 w1 b n hn _ hs, Source.own (ho.alloc _) (byteV_one _), le_alloc hs _, ?_⟩
  exact ((((Below.refl _ _).alloc (Nat.le_refl _) _).drew).trans (hb.mono (by rw [size_a1d]; omega))).alloc (by omega) _

set_option maxRecDepth 100000 in
set_option maxHeartbeats 3200000 in
theorem rencode_2 (n : Int) (s : List UInt8) (l : List V) (a : Option Addr) (cap : Nat) (w : World) (hs : s.length ≤ 1000000) :
    Calls Try.prog 59 #[.agg #[.int .i64 2, .int .i64 n, .string ⟨s.toArray⟩, .slice a l.length cap]] w (Fresh (V.mk 2 n s l).enc w) := by
  have e0 : (V.mk 2 n s l).enc = [2] ++ num s.length ++ s := by simp [V.enc]
  rw [e0]
  have hm := fun w => rnumeral s.length w (by omega)
  have hpos := num_pos s.length
  have hle := num_le s.length
  generalize num s.length = xs at *
  have HM := Lib.hid hm
  have K3 := Lib.hid (maxLen_le (n := [(2 : UInt8)].length + xs.length) (by simp; omega))
  have K4 := Lib.hid (show ([(2 : UInt8)].length + xs.length) * 1 ≤ 140737488355328 by simp; omega)
  have K5 := Lib.hid (maxLen_le (n := ([2] ++ xs).length + (⟨s.toArray⟩ : ByteArray).size) (by simp [ByteArray.size]; omega))
  have K6 := Lib.hid (show (([2] ++ xs).length + (⟨s.toArray⟩ : ByteArray).size) * 1 ≤ 140737488355328 by simp [ByteArray.size]; omega)
  have kw : IntKind.u64.wrap (s.length : Int) = s.length := by simp [IntKind.wrap, IntKind.bits, IntKind.signed]; omega
  clear hm e0
  go_enter Try.func59, Try.ntmps59
  go_wp2_with fail
  go_region_held3 (fun w' => w'.cell? ⟨w.heap.size, 2, none⟩ = some (.string ⟨s.toArray⟩))
    (first
      | go_keep
      | exact below_cell hb1 ‹_›
      | exact hg2.cell ‹_› (fun e => by have := (HO0.out.lt _ e).1; have h' : w.heap.size + 1 ≤ w.heap.size := this; omega)
      | exact hg3.cell ‹_› (fun e => by have := (hg2.own.lt _ e).1; have h' : w.heap.size + 1 ≤ w.heap.size := this; omega))
    (first
      | (go_at_call 78; ((with_reducible refine (HM.out _).mono ?_)); rintro e w1 ⟨v1, rfl, hown1, hb1⟩; first | (obtain ⟨HO0, HS, hszW, hbW⟩ := facts1 (b := 2) rfl hb1 hown1; clear hown1) | (obtain ⟨HO0, HS, hszW, hbW⟩ := facts2 (b := 2) (n := 2) rfl hb1 hown1; clear hown1))
      | (refine step_app (by rfl) _ _ (by rfl) elemB (w.heap.size + 1) _ _ _ (by rfl) HO0.out _ _ _ (by rfl) HS.out (.inl rfl) K3.out K4.out hszW ?_; intro v2 w2 hg2'; have hg2 := grew_more (bs := [2]) rfl rfl rfl hg2'; clear hg2')
      | (refine step_app (by rfl) _ _ (by rfl) elemB (w.heap.size + 1) v2 _ _ (by rfl) hg2.own (.string ⟨s.toArray⟩) _ _ (by rfl) (Source.text _ Try.underlying9 rfl) (.inr rfl) K5.out K6.out (Nat.le_trans hszW hg2.by_.size) ?_; intro v3 w3 hg3))
  all_goals
    go_wp2
    go_ret
    have h3 := hg2.trans (grew_more (cs := s) rfl (by simp [ByteArray.size]) (strCells_of s) hg3)
    exact ⟨v3, rfl, ownsRow_weak h3.own (by omega), hbW.trans ((h3.below hszW (fun g hg => (HO0.out.lt g hg).1)).mono (by omega))⟩

set_option maxRecDepth 100000 in
set_option maxHeartbeats 3200000 in
theorem rencode_3 (k n : Int) (s : List UInt8) (l : List V) (a : Option Addr) (cap : Nat) (w : World) (h1 : ¬ k = 1) (h2 : ¬ k = 2) (hr : RepL w l a) (hl : l.length ≤ cap) (hc : l.length ≤ 140737488351232) (hlen : (V.encs l).length ≤ 1000000)
    (ih : ∀ v, v ∈ l → ∀ w c, RepV w v c → Calls Try.prog 59 #[c] w (Fresh v.enc w)) :
    Calls Try.prog 59 #[.agg #[.int .i64 k, .int .i64 n, .string ⟨s.toArray⟩, .slice a l.length cap]] w (Fresh (V.mk k n s l).enc w) := by
  have e0 : (V.mk k n s l).enc = [3] ++ num l.length ++ V.encs l := by simp [V.enc, h1, h2]
  rw [e0]
  have hll := V.encs_len l
  have hm := fun w => rnumeral l.length w (by omega)
  have hpos := num_pos l.length
  have hle := num_le l.length
  have g1 : (k == 1) = false := by simpa using h1
  have g2 : (k == 2) = false := by simpa using h2
  generalize num l.length = xs at *
  have HM := Lib.hid hm
  have HR := Lib.hid hr
  have IH := Lib.hid ih
  have K3 := Lib.hid (maxLen_le (n := [(3 : UInt8)].length + xs.length) (by simp; omega))
  have K4 := Lib.hid (show ([(3 : UInt8)].length + xs.length) * 1 ≤ 140737488355328 by simp; omega)
  clear hm e0 h1 h2 hr ih
  go_enter Try.func59, Try.ntmps59
  go_wp2_with fail
  refine (HM.out _).mono ?_
  rintro e w1 ⟨v1, rfl, hown1, hb1⟩
  have hown0 := ownsRow_below (own_lit1 (w.alloc (Obj.cells #[.int .i64 k, .int .i64 n, .string ⟨s.toArray⟩, .slice a l.length cap] 85)) 3 3 rfl (w.heap.size + 1) (by simp)) hb1
  rw [size_a1] at hown0
  have HO0 := Lib.hid hown0
  have HO1 := Lib.hid hown1
  have hsz : w.heap.size + 1 ≤ w1.heap.size := by have := hb1.size; simp at this; omega
  have hbb : Below (w.heap.size + 1) (w.alloc (.cells #[.int .i64 k, .int .i64 n, .string ⟨s.toArray⟩, .slice a l.length cap] 85)) w1 := ((Below.refl _ _).alloc (by simp) _).trans (hb1.mono (by simp))
  clear hown0 hown1 hb1
  go_wp2_with (at_builtin; refine wpList_app rfl _ _ rfl elemB (w.heap.size + 1) _ _ _ rfl HO0.out _ _ _ rfl (Source.own HO1.out (byteV_one _)) (.inl rfl) K3.out K4.out hsz ?_; intro v2 w2 hg2)
  have hg3 := grew_more (bs := [3]) rfl rfl rfl hg2
  have hb3 := hbb.trans (hg3.below hsz (fun g hg => (HO0.out.lt g hg).1))
  have HG3 := Lib.hid hg3.own
  clear hg2 hg3 hbb
  go_loopw [3, 4] (fun u i wr => ∃ j : Nat, j ≤ l.length ∧ i = .int .i64 j ∧ wr.ownsRow (w.heap.size + 1) 5 1 u ([3] ++ xs ++ V.encs (l.take j)).length (([3] ++ xs ++ V.encs (l.take j)).map byteV) ∧ Below (w.heap.size + 1) (w.alloc (.cells #[.int .i64 k, .int .i64 n, .string ⟨s.toArray⟩, .slice a l.length cap] 85)) wr) (fun _ i _ => l.length - (intOf i).toNat)
  case atStart => exact ⟨0, Nat.zero_le _, rfl, by simpa [V.encs] using HG3.out, hb3⟩
  case round =>
    obtain ⟨j, hj, rfl, hown, hb⟩ := hrel
    have HO := Lib.hid hown
    have q3 : wr.cell? ⟨w.heap.size, 3, none⟩ = some (.slice a l.length cap) := (hb.cell (by simp)).trans (by go_simp)
    have hb0 : Below w.heap.size w wr := ((Below.refl _ _).alloc (Nat.le_refl _) _).trans (hb.mono (by omega))
    clear hown
    by_cases hlt : j < l.length
    · obtain ⟨b, off, k0, n0, s0, a', len', cap', rfl, g0, g1, g2, g3, hv⟩ := (RepL.below hb0 HR.out).at j hlt
      have HV := Lib.hid hv
      have hle2 := V.encs_take_le l j hlt
      have hsz1 : w.heap.size + 1 ≤ wr.heap.size := by have := hb.size; simpa using this
      clear hv
      go_wp2_with fail
      refine (IH.out l[j] (List.getElem_mem _) _ _ HV.out).mono ?_
      rintro e w5 ⟨v5, rfl, hown5, hb5⟩
      have HO5 := Lib.hid hown5
      have HO6 := Lib.hid (ownsRow_below HO.out hb5)
      have hb6 := hb.trans (hb5.mono hsz1)
      have hsz6 : w.heap.size + 1 ≤ w5.heap.size := Nat.le_trans hsz1 hb5.size
      have K5 := Lib.hid (maxLen_le (n := ([3] ++ xs ++ V.encs (l.take j)).length + l[j].enc.length) (by simp only [List.length_append, List.length_cons, List.length_nil]; omega))
      have K6 := Lib.hid (show (([3] ++ xs ++ V.encs (l.take j)).length + l[j].enc.length) * 1 ≤ 140737488355328 by simp only [List.length_append, List.length_cons, List.length_nil]; omega)
      clear hown5 hb5
      go_wp2_with (at_builtin; refine wpList_app rfl _ _ rfl elemB (w.heap.size + 1) _ _ _ rfl HO6.out _ _ _ rfl (Source.own HO5.out (byteV_one _)) (.inl rfl) K5.out K6.out hsz6 ?_; intro v7 w7 hg7)
      have hg8 := grew_more rfl rfl rfl hg7
      have hb8 := hb6.trans (hg8.below hsz6 (fun g hg => (HO6.out.lt g hg).1))
      go_roundw
      case rel =>
        refine ⟨j + 1, by omega, by go_num, ?_, hb8⟩
        have e : [3] ++ xs ++ V.encs (l.take (j + 1)) = ([3] ++ xs ++ V.encs (l.take j)) ++ l[j].enc := by rw [V.encs_take_succ l j hlt]; simp
        rw [e]
        exact hg8.own
      case measure => simp [intOf]; omega
    · have e4 : l.take j = l := List.take_of_length_le (by omega)
      rw [e4] at HO
      clear e4
      go_wp2
      go_ret
      exact ⟨_, rfl, ownsRow_weak HO.out (by omega), hb0⟩

theorem rencode_any (m : Nat) : ∀ (v : V) (w : World) (c : Value), SizeOf.sizeOf v ≤ m → v.enc.length ≤ 1000000 → RepV w v c → Calls Try.prog 59 #[c] w (Fresh v.enc w) := by
  induction m with
  | zero => intro v w c hm; cases v; simp at hm
  | succ m ih =>
    intro v w c hm hlen hr
    obtain ⟨k, n, s, l⟩ := v
    simp only [RepV] at hr
    obtain ⟨a, cap, rfl, hk, hn, hs, hl, hcap, hrl⟩ := hr
    by_cases h1 : k = 1
    · subst h1; exact rencode_1 n s l a cap w hn
    · by_cases h2 : k = 2
      · subst h2
        have e : (V.mk 2 n s l).enc = 2 :: (num s.length ++ s) := by simp [V.enc]
        rw [e] at hlen
        exact rencode_2 n s l a cap w (by simp at hlen; omega)
      · have e : (V.mk k n s l).enc = 3 :: (num l.length ++ V.encs l) := by simp [V.enc, h1, h2]
        rw [e] at hlen
        have hl2 : (V.encs l).length ≤ 1000000 := by simp at hlen; omega
        refine rencode_3 k n s l a cap w h1 h2 hrl hl hcap hl2 fun x hx w' c' hr' => ih x w' c' ?_ ?_ hr'
        · have := List.sizeOf_lt_of_mem hx
          simp at hm; omega
        · obtain ⟨i, hi, rfl⟩ := List.mem_iff_getElem.1 hx
          have := V.encs_take_le l i hi
          omega
end Go.Proofs.Ythidfoohhhkobaa.Cd


namespace Go.Proofs.Ythidfoohhhkobaa.Cd
set_option linter.unusedSimpArgs false
set_option linter.unusedVariables false
open Go.RowKit
set_option maxHeartbeats 1000000 in
theorem rcheck_any (v : V) (w : World) (c : Value) (hd : v.depth ≤ 1000000) (hr : RepV w v c) : Calls Try.prog 58 #[c] w (GivesI v.chk w) := by
  obtain ⟨k, n, s, a, len, cap, rfl⟩ := hr.form
  have hf := fun W hb => rformed_any _ v W _ (Nat.le_refl _) (RepV.below (w' := W) hb hr)
  have hd' := fun W hb => rdepth_any _ v W _ (Nat.le_refl _) hd (RepV.below (w' := W) hb hr)
  have HF := Lib.hid hf
  have HD := Lib.hid hd'
  clear hf hd' hr
  by_cases hok : v.ok = true
  · rw [hok] at HF
    by_cases h16 : (16 : Int) < v.depth
    · have ez : v.chk = 2 := by rw [V.chk_of, if_pos hok, if_pos (by omega)]
      rw [ez]
      clear ez
      go_enter Try.func58, Try.ntmps58
      go_wp2_with fail
      refine (HF.out _ ((Below.refl _ _).alloc (Nat.le_refl _) _)).mono ?_
      rintro e w1 ⟨rfl, hb1⟩
      have q0 : w1.cell? ⟨w.heap.size, 0, none⟩ = some (.int .i64 k) := (hb1.cell (by simp)).trans (by go_simp)
      have q1 : w1.cell? ⟨w.heap.size, 1, none⟩ = some (.int .i64 n) := (hb1.cell (by simp)).trans (by go_simp)
      have q2 : w1.cell? ⟨w.heap.size, 2, none⟩ = some (.string s) := (hb1.cell (by simp)).trans (by go_simp)
      have q3 : w1.cell? ⟨w.heap.size, 3, none⟩ = some (.slice a len cap) := (hb1.cell (by simp)).trans (by go_simp)
      have hb2 : Below w.heap.size w w1 := ((Below.refl _ _).alloc (Nat.le_refl _) _).trans (hb1.mono (by simp))
      go_wp2_with fail
      refine (HD.out _ hb2).mono ?_
      rintro e w3 ⟨rfl, hb3⟩
      go_wp2
      go_ret
      exact givesI_of rfl (hb2.trans (hb3.mono hb2.size))
    · have ez : v.chk = 0 := by rw [V.chk_of, if_pos hok, if_neg (by omega)]
      rw [ez]
      clear ez
      go_enter Try.func58, Try.ntmps58
      go_wp2_with fail
      refine (HF.out _ ((Below.refl _ _).alloc (Nat.le_refl _) _)).mono ?_
      rintro e w1 ⟨rfl, hb1⟩
      have q0 : w1.cell? ⟨w.heap.size, 0, none⟩ = some (.int .i64 k) := (hb1.cell (by simp)).trans (by go_simp)
      have q1 : w1.cell? ⟨w.heap.size, 1, none⟩ = some (.int .i64 n) := (hb1.cell (by simp)).trans (by go_simp)
      have q2 : w1.cell? ⟨w.heap.size, 2, none⟩ = some (.string s) := (hb1.cell (by simp)).trans (by go_simp)
      have q3 : w1.cell? ⟨w.heap.size, 3, none⟩ = some (.slice a len cap) := (hb1.cell (by simp)).trans (by go_simp)
      have hb2 : Below w.heap.size w w1 := ((Below.refl _ _).alloc (Nat.le_refl _) _).trans (hb1.mono (by simp))
      go_wp2_with fail
      refine (HD.out _ hb2).mono ?_
      rintro e w3 ⟨rfl, hb3⟩
      go_wp2
      go_ret
      exact givesI_of rfl (hb2.trans (hb3.mono hb2.size))
  · have hok' : v.ok = false := by simpa using hok
    have ez : v.chk = 1 := by rw [V.chk_of, if_neg hok]
    rw [ez]
    rw [hok'] at HF
    clear hok ez hok'
    go_enter Try.func58, Try.ntmps58
    go_wp2_with fail
    refine (HF.out _ ((Below.refl _ _).alloc (Nat.le_refl _) _)).mono ?_
    rintro e w1 ⟨rfl, hb1⟩
    go_wp2
    go_ret
    exact givesI_of rfl (((Below.refl _ _).alloc (Nat.le_refl _) _).trans (hb1.mono (by simp)))

set_option maxHeartbeats 1000000 in
theorem rencodeE_any (v : V) (w : World) (c : Value) (hd : v.depth ≤ 1000000) (hlen : v.enc.length ≤ 1000000) (hr : RepV w v c) : Calls Try.prog 35 #[c] w (EncPost v w) := by
  obtain ⟨k, n, s, a, len, cap, rfl⟩ := hr.form
  have hc := fun W hb => rcheck_any v W _ hd (RepV.below (w' := W) hb hr)
  have he := fun W hb => rencode_any _ v W _ (Nat.le_refl _) hlen (RepV.below (w' := W) hb hr)
  have HC := Lib.hid hc
  have HE := Lib.hid he
  clear hc he hr
  by_cases hz : v.chk = 0
  · unfold EncPost V.out
    rw [hz, if_pos rfl]
    rw [hz] at HC
    clear hz
    go_enter Try.func35, Try.ntmps35
    go_wp2_with fail
    refine (HC.out _ ((Below.refl _ _).alloc (Nat.le_refl _) _)).mono ?_
    rintro e w1 ⟨rfl, hb1⟩
    have q0 : w1.cell? ⟨w.heap.size, 0, none⟩ = some (.int .i64 k) := (hb1.cell (by simp)).trans (by go_simp)
    have q1 : w1.cell? ⟨w.heap.size, 1, none⟩ = some (.int .i64 n) := (hb1.cell (by simp)).trans (by go_simp)
    have q2 : w1.cell? ⟨w.heap.size, 2, none⟩ = some (.string s) := (hb1.cell (by simp)).trans (by go_simp)
    have q3 : w1.cell? ⟨w.heap.size, 3, none⟩ = some (.slice a len cap) := (hb1.cell (by simp)).trans (by go_simp)
    have hb2 : Below w.heap.size w w1 := ((Below.refl _ _).alloc (Nat.le_refl _) _).trans (hb1.mono (by simp))
    go_wp2_with fail
    refine (HE.out _ hb2).mono ?_
    rintro e w3 ⟨v3, rfl, hown3, hb3⟩
    go_wp2
    go_ret2
    exact ⟨v3, rfl, ownsRow_weak hown3 hb2.size, hb2.trans (hb3.mono hb2.size)⟩
  · have hz' : (v.chk != 0) = true := by simpa using hz
    have e1 : v.out = [] := by unfold V.out; rw [if_neg hz]
    unfold EncPost
    rw [e1]
    clear hz e1
    go_enter Try.func35, Try.ntmps35
    go_wp2_with fail
    refine (HC.out _ ((Below.refl _ _).alloc (Nat.le_refl _) _)).mono ?_
    rintro e w1 ⟨rfl, hb1⟩
    go_wp2
    go_ret2
    exact ⟨_, rfl, World.ownsRow_nil _ _ _ _, ((Below.refl _ _).alloc (Nat.le_refl _) _).trans (hb1.mono (by simp))⟩

theorem own_form {w : World} {base : Nat} {e : TypeId} {size : Nat} {v : Value} {n : Nat} {xs : List Value} (h : w.ownsRow base e size v n xs) : ∃ a cap, v = .slice a n cap := by
  rcases h.2 with ⟨rfl, rfl⟩ | ⟨g, cap, cur, rfl, _⟩
  · exact ⟨_, _, rfl⟩
  · exact ⟨_, _, rfl⟩
end Go.Proofs.Ythidfoohhhkobaa.Cd


namespace Go.Proofs.Ythidfoohhhkobaa
set_option linter.unusedSimpArgs false
open Go.RowKit
set_option linter.unusedVariables false
def val0 : List D := [cI 0, cI 0, .c (.string ⟨#[]⟩), .c (.slice none 0 0)]
mutual
def valD : Cd.V → List D
  | .mk k n s l => [cI k, cI n, .c (.string (strL s)), .sl 4 val0 (valsD l)]
def valsD : List Cd.V → List (List D)
  | [] => []
  | v :: l => valD v :: valsD l
end
theorem valsD_map : ∀ l : List Cd.V, valsD l = l.map valD
  | [] => rfl
  | v :: l => by rw [valsD, valsD_map l]; rfl
theorem valsD_len (l : List Cd.V) : (valsD l).length = l.length := by rw [valsD_map]; simp
mutual
def vOk : Cd.V → Prop
  | .mk k n s l => Cd.i64R k ∧ Cd.i64R n ∧ s.length ≤ 140737488351232 ∧ vsOk l
def vsOk : List Cd.V → Prop
  | [] => True
  | v :: l => vOk v ∧ vsOk l
end
mutual
theorem rep_of {F : Ft} {w : World} : ∀ (v : Cd.V) (us : List Value), vOk v → RDL F w (valD v) us → Cd.RepV w v (.agg us.toArray)
  | .mk k n s l, us, hv, h => by
    simp only [vOk] at hv
    obtain ⟨h1, h2, h3, h4⟩ := hv
    simp only [valD, RDL, RD] at h
    obtain ⟨_, _, rfl, rfl, _, _, rfl, rfl, _, _, rfl, rfl, u, _, rfl, ⟨a, cap, rfl, e2, e3, hr⟩, rfl⟩ := h
    rw [valsD_len] at e2 e3 ⊢
    simp only [Cd.RepV]
    refine ⟨a, cap, rfl, h1, h2, h3, e2, e3, ?_⟩
    cases l with
    | nil => simp only [Cd.RepL]
    | cons v l =>
      obtain ⟨b, o, rfl⟩ : ∃ b o, a = some ⟨b, o, none⟩ := by
        simp only [valsD, RR] at hr
        obtain ⟨⟨b, o, _, e, _⟩, _⟩ := hr
        exact ⟨b, o, e⟩
      have := repL_of (v :: l) b o 0 h4 hr
      simpa using this
theorem repL_of {F : Ft} {w : World} : ∀ (l : List Cd.V) (b o k : Nat), vsOk l → RR F w 4 (some ⟨b, o, none⟩) (valsD l) k → Cd.RepL w l (some ⟨b, o + k, none⟩)
  | [], b, o, k, _, _ => by simp only [Cd.RepL]
  | v :: l, b, o, k, hv, h => by
    simp only [vsOk] at hv
    simp only [valsD, RR] at h
    obtain ⟨⟨b', o', us, e, h1, h2, h3, h4⟩, h5⟩ := h
    cases e
    obtain ⟨c0, c1, c2, c3, rfl⟩ : ∃ c0 c1 c2 c3, us = [c0, c1, c2, c3] := by
      match us, h2 with
      | [c0, c1, c2, c3], _ => exact ⟨_, _, _, _, rfl⟩
    have ih := repL_of l b o (k + 4) hv.2 h5
    simp only [Cd.RepL]
    refine ⟨b, o + k, c0, c1, c2, c3, rfl, ?_, ?_, ?_, ?_, rep_of v _ hv.1 h1, ?_⟩
    · simpa using (h4 0 c0 rfl).2
    · simpa using (h4 1 c1 rfl).2
    · simpa using (h4 2 c2 rfl).2
    · simpa using (h4 3 c3 rfl).2
    · rw [show o + k + 4 = o + (k + 4) by omega]; exact ih
end
mutual
theorem rdl_of_repF {G : Nat → Prop} {F : Ft} {w : World} (hF : ∀ b, G b → ∀ o, F.c b o) : ∀ (v : Cd.V) (c : Value), Cd.RepF G w v c → ∃ us : List Value, c = .agg us.toArray ∧ RDL F w (valD v) us ∧ (∀ u ∈ us, u.oneCell' = true) ∧ us.length = 4
  | .mk k n s l, c, h => by
    simp only [Cd.RepF] at h
    obtain ⟨a, cap, rfl, h1, h2, h3, h4, h5, h6⟩ := h
    refine ⟨[.int .i64 k, .int .i64 n, .string ⟨s.toArray⟩, .slice a l.length cap], rfl, ?_, by simp [Value.oneCell'], rfl⟩
    simp only [valD, RDL, RD]
    refine ⟨_, _, rfl, rfl, _, _, rfl, rfl, _, _, rfl, rfl, _, _, rfl, ⟨a, cap, by rw [valsD_len], by rw [valsD_len]; exact h4, by rw [valsD_len]; exact h5, ?_⟩, rfl⟩
    cases l with
    | nil => simp only [valsD, RR]
    | cons v l =>
      obtain ⟨b, o, rfl⟩ : ∃ b o, a = some ⟨b, o, none⟩ := by
        simp only [Cd.RepFL] at h6
        obtain ⟨b, o, _, _, _, _, _, e, _⟩ := h6
        exact ⟨b, o, e⟩
      exact rr_of_repF hF (v :: l) b o 0 h6
theorem rr_of_repF {G : Nat → Prop} {F : Ft} {w : World} (hF : ∀ b, G b → ∀ o, F.c b o) : ∀ (l : List Cd.V) (b o k : Nat), Cd.RepFL G w l (some ⟨b, o + k, none⟩) → RR F w 4 (some ⟨b, o, none⟩) (valsD l) k
  | [], b, o, k, _ => by simp only [valsD, RR]
  | v :: l, b, o, k, h => by
    simp only [Cd.RepFL] at h
    obtain ⟨b', o', c0, c1, c2, c3, hG, e, h0, h1, h2, h3, hv, hl⟩ := h
    cases e
    obtain ⟨us, e1, e2, e3, e4⟩ := rdl_of_repF hF v _ hv
    obtain rfl : us = [c0, c1, c2, c3] := by
      have := Value.agg.inj e1
      have := congrArg Array.toList this
      simpa using this.symm
    simp only [valsD, RR]
    refine ⟨⟨b, o, _, rfl, e2, rfl, e3, fun j u hj => ⟨hF b hG _, ?_⟩⟩, rr_of_repF hF l b o (k + 4) (by rw [show o + (k + 4) = o + k + 4 by omega]; exact hl)⟩
    match j, hj with
    | 0, hj => simp at hj; subst hj; simpa using h0
    | 1, hj => simp at hj; subst hj; simpa using h1
    | 2, hj => simp at hj; subst hj; simpa using h2
    | 3, hj => simp at hj; subst hj; simpa using h3
end
def Ft.all (F : Ft) (w w' : World) : Ft := ⟨fun b o => F.c b o ∨ (w.heap.size ≤ b ∧ b < w'.heap.size), F.m⟩
theorem Ft.all_new (F : Ft) (w w' : World) : FtNew F (F.all w w') w w' := ⟨⟨fun _ _ h => .inl h, fun _ h => h⟩, fun _ _ h => h, fun _ h => .inl h⟩
theorem byD_us {F : Ft} {w : World} : ∀ l : List UInt8, RDL F w (l.map byD).flatten (l.map Cd.byteV)
  | [] => by simp [RDL]
  | b :: l => by simp only [List.map_cons, List.flatten_cons, byD, List.cons_append, List.nil_append, RDL, RD]; exact ⟨_, _, rfl, rfl, byD_us l⟩
theorem own_bs {F : Ft} {w w' : World} {v : Value} {e : TypeId} {l : List UInt8} (hl : l.length ≤ 140737488351232) (h : w'.ownsRow w.heap.size e 1 v l.length (l.map Cd.byteV)) : RD (F.all w w') w' (bsD l) v := by
  simp only [RD]
  rcases h.2 with ⟨rfl, h2⟩ | ⟨g, cap, cur, rfl, h1, h3, h4, h5, h6, h7⟩
  · have : l = [] := List.eq_nil_of_length_eq_zero h2
    subst this
    exact ⟨none, 0, rfl, Nat.le_refl _, by simp, by simp [RR]⟩
  · have hlt : g < w'.heap.size := (Array.getElem?_eq_some_iff.1 h3).1
    refine ⟨some ⟨g, 0, none⟩, cap, by simp, by simpa using h4, by simpa using hl, ?_⟩
    refine RR.of_cells (us := l.map Cd.byteV) (byD_us l) (fun z hz => by obtain ⟨c, _, rfl⟩ := List.mem_map.1 hz; rfl) (fun u hu => by obtain ⟨c, _, rfl⟩ := List.mem_map.1 hu; rfl) (fun j u hj => ⟨.inr ⟨h1, hlt⟩, ?_⟩)
    have := h.cells (g := g) rfl j u hj
    rw [Addr.add_mid] at this
    simpa using this
theorem cdEnc_spec (v : Cd.V) (hv : vOk v) (hd : v.depth ≤ 1000000) (hl : v.enc.length ≤ 1000000) : Spec Try.prog 65 [.agg (valD v)] (.rt [.one (bsD v.out), aI v.chk]) := by
  intro F w us hF hus
  simp only [RAL] at hus
  obtain ⟨c, r, rfl, ⟨cs, rfl, h1, _⟩, rfl⟩ := hus
  refine (Cd.encode_any v w _ hd hl (rep_of v cs hv h1)).mono ?_
  rintro e w' ⟨v', rfl, ho, hb⟩
  have hol : v.out.length ≤ 140737488351232 := by
    unfold Cd.V.out
    split
    · omega
    · simp
  exact ⟨_, F.all w w', rfl, hb, Ft.all_new _ _ _, _, rfl, _, _, rfl, own_bs hol ho, _, _, rfl, by simp only [RA, RD], rfl⟩
theorem rcdEnc_spec (v : Cd.V) (hv : vOk v) (hd : v.depth ≤ 1000000) (hl : v.enc.length ≤ 1000000) : Spec Try.prog 35 [.agg (valD v)] (.rt [.one (bsD v.out), aI v.chk]) := by
  intro F w us hF hus
  simp only [RAL] at hus
  obtain ⟨c, r, rfl, ⟨cs, rfl, h1, _⟩, rfl⟩ := hus
  refine (Cd.rencodeE_any v w _ hd hl (rep_of v cs hv h1)).mono ?_
  rintro e w' ⟨v', rfl, ho, hb⟩
  have hol : v.out.length ≤ 140737488351232 := by
    unfold Cd.V.out
    split
    · omega
    · simp
  exact ⟨_, F.all w w', rfl, hb, Ft.all_new _ _ _, _, rfl, _, _, rfl, own_bs hol ho, _, _, rfl, by simp only [RA, RD], rfl⟩
theorem bytes_of {F : Ft} {w : World} {a : Option Addr} : ∀ (l : List UInt8), RR F w 1 a (l.map byD) 0 → Cd.Bytes w a l := by
  intro l h
  cases l with
  | nil => exact .inl rfl
  | cons c l =>
    obtain ⟨b, o, us, e, _⟩ := RR.get (i := 0) h rfl
    refine .inr ⟨b, o, e, fun i hi => ?_⟩
    obtain ⟨b', o', us', e', h1, h2, h3, h4⟩ := RR.get (i := i) (e := byD (c :: l)[i]) h (by rw [List.getElem?_map, List.getElem?_eq_getElem hi]; rfl)
    rw [e] at e'
    cases e'
    simp only [byD, RDL, RD] at h1
    obtain ⟨u, r, rfl, rfl, rfl⟩ := h1
    simpa [Cd.byteV] using (h4 0 _ rfl).2
theorem cdDec_spec (l : List UInt8) (hl : l.length ≤ 1000000) : Spec Try.prog 56 [.one (bsD l)] (.rt [.agg (valD ((Cd.dec l).getD Cd.V.zero)), aI (if (Cd.dec l).isSome then 0 else 10)]) := by
  intro F w us hF hus
  simp only [RAL] at hus
  obtain ⟨c, r, rfl, h1, rfl⟩ := hus
  simp only [RA, RD, List.length_map] at h1
  obtain ⟨a, cap, rfl, h2, h3, h4⟩ := h1
  refine Calls.mono (R := Cd.DecPost l w) ?_ ?_
  · cases l with
    | nil => exact Cd.decode_none a cap w
    | cons c l =>
      refine Cd.decode_any (c :: l) a cap w h2 hl (bytes_of _ h4) (fun ad he => ?_)
      subst he
      obtain ⟨b, o, us, e, _, h5, _, h6⟩ := RR.get (i := 0) h4 rfl
      cases e
      obtain ⟨u, rfl⟩ : ∃ u, us = [u] := by match us, h5 with | [u], _ => exact ⟨u, rfl⟩
      exact hF.1 b _ (h6 0 u rfl).1
  rintro e w' ⟨c, rfl, hr, hb⟩
  obtain ⟨us, rfl, h5, h6, _⟩ := rdl_of_repF (F := F.all w w') (fun b hb o => .inr hb) _ _ hr
  exact ⟨_, F.all w w', rfl, hb, Ft.all_new _ _ _, _, rfl, _, _, rfl, ⟨us, rfl, h5, h6⟩, _, _, rfl, by simp only [RA, RD], rfl⟩

set_option maxRecDepth 100000
set_option maxHeartbeats 4000000
theorem ptrTy_intp : PtrTy Try.prog 111 := ⟨_, Try.underlying111⟩
def ptrsD (l : List D) : List D := [.pt l, .pt (l.drop 1), .pt (l.drop 2), .pt (l.drop 3), .pt (l.drop 4), .pt (l.drop 5), .pt (l.drop 6), .c (.pointer none), .pt (l.drop 39), .pt (l.drop 40), .pt (l.drop 41)]
theorem gfields_spec (h : Hd) : Spec Try.prog 57 [.one (.pt (handD h))] (.r1 (.agg (ptrsD (handD h)))) := by
  refine spec_of T_ok Try.func57 (by dsimp only [Try.f57]) rfl rfl (by simp) fun w F => ?_
  repeat' (first | (with_reducible refine aw_seq ?_) | ((with_reducible refine And.intro ?_ ?_); (focus (rfl))) | ((first | ((with_reducible refine aw_regionA T_ok ?_ ?_); kernel_rfl) | ((with_reducible refine aw_drawnA T_ok ?_ ?_ ?_ ?_); kernel_rfl; kernel_rfl; (focus (decide +kernel))) | (with_reducible refine aw_ret ?_) ); simp only [↓avP, avQ, avR, forall_const, implies_true, Nat.reduceEqDiff, Nat.reduceAdd, Nat.reduceLeDiff, reduceCtorEq, avS, ptrsD, ty_46, ty_40, ty_44, ty_112, ty_111]; try simp (disch := omega) only [av_w, av_t1, av_tp, Int.toNat_natCast]))
  all_goals exact Sub.of_eq (by simp [ptrsD])
def intV (n : Int) : Cd.V := .mk 1 n [] []
def msgV (h : Hd) : Cd.V := .mk 3 0 [] [intV h.line, intV h.at_, intV h.arr, intV h.leg, intV h.frm, intV h.to_, intV h.many, .mk 2 0 h.root.toList [], intV h.time, intV h.se, intV h.ss]
def msg (h : Hd) : List UInt8 := (msgV h).enc
def hOk (h : Hd) : Prop := Cd.i64R h.line ∧ Cd.i64R h.at_ ∧ Cd.i64R h.arr ∧ Cd.i64R h.leg ∧ Cd.i64R h.frm ∧ Cd.i64R h.to_ ∧ Cd.i64R h.many ∧ Cd.i64R h.time ∧ Cd.i64R h.se ∧ Cd.i64R h.ss
theorem msg_ok (h : Hd) : (msgV h).ok = true := by simp [msgV, intV, Cd.V.ok, Cd.V.oks]
theorem msg_depth (h : Hd) : (msgV h).depth = 1 := by simp [msgV, intV, Cd.V.depth, Cd.V.depths]
theorem msg_chk (h : Hd) : (msgV h).chk = 0 := by unfold Cd.V.chk; rw [msg_ok, msg_depth]; rfl
theorem msg_out (h : Hd) : (msgV h).out = msg h := by unfold Cd.V.out; rw [msg_chk]; rfl
theorem msg_len (h : Hd) : (msg h).length ≤ 200 := by
  have := Cd.num_le
  simp only [msg, msgV, intV, Cd.V.enc, Cd.V.encs]
  simp only [if_true, if_false, reduceIte, Int.reduceEq, Nat.zero_add, Nat.reduceAdd, List.length_append, List.length_cons, List.length_nil, Vector.length_toList]
  have h1 := this (Cd.zz h.line); have h2 := this (Cd.zz h.at_); have h3 := this (Cd.zz h.arr); have h4 := this (Cd.zz h.leg); have h5 := this (Cd.zz h.frm); have h6 := this (Cd.zz h.to_); have h7 := this (Cd.zz h.many)
  have h8 := this (Cd.zz h.time); have h9 := this (Cd.zz h.se); have h10 := this (Cd.zz h.ss); have h11 := this 32; have h12 := this 11
  omega
theorem msg_vOk (h : Hd) (hh : hOk h) : vOk (msgV h) := by
  obtain ⟨h1, h2, h3, h4, h5, h6, h7, h8, h9, h10⟩ := hh
  have z : ∀ n : Int, 0 ≤ n → n ≤ 3 → Cd.i64R n := fun n a b => ⟨by omega, by omega⟩
  simp only [msgV, intV, vOk, vsOk, and_true, List.length_nil, Vector.length_toList]
  have z0 := z 0 (by omega) (by omega); have z1 := z 1 (by omega) (by omega); have z2 := z 2 (by omega) (by omega); have z3 := z 3 (by omega) (by omega)
  repeat' (first | assumption | exact Nat.zero_le _ | decide | (refine ⟨?_, ?_⟩))
theorem spec_arg {P : Program} {f : FuncId} {ds es : List D} {r : Ret} (h : Spec P f [.agg es] r) (hs : SubDL ds es) : Spec P f [.agg ds] r := by
  intro F w us hF hus
  simp only [RAL] at hus
  obtain ⟨u, rr, rfl, ⟨cs, rfl, h1, h2⟩, rfl⟩ := hus
  exact h F w _ hF ⟨_, _, rfl, ⟨cs, rfl, hs.ok h1, h2⟩, rfl⟩
def intC (n : Int) : List D := [cI 1, cI n, .c (.string ⟨#[]⟩), .c (.slice none 0 0)]
def textC (l : List UInt8) : List D := [cI 2, cI 0, .c (.string (strL l)), .c (.slice none 0 0)]
def msgC (h : Hd) : List (List D) := [intC h.line, intC h.at_, intC h.arr, intC h.leg, intC h.frm, intC h.to_, intC h.many, textC h.root.toList, intC h.time, intC h.se, intC h.ss]
theorem sub_int (n : Int) : SubDL (intC n) (valD (intV n)) := ⟨.refl _, .refl _, .refl _, .of _ _ rfl, trivial⟩
theorem sub_text (l : List UInt8) : SubDL (textC l) (valD (.mk 2 0 l [])) := ⟨.refl _, .refl _, .refl _, .of _ _ rfl, trivial⟩
theorem sub_msg (h : Hd) (d0 : List D) : SubDL [cI 3, cI 0, .c (.string ⟨#[]⟩), .sl 4 d0 (msgC h)] (valD (msgV h)) :=
  ⟨.refl _, .refl _, .refl _, .sl ⟨sub_int _, sub_int _, sub_int _, sub_int _, sub_int _, sub_int _, sub_int _, sub_text _, sub_int _, sub_int _, sub_int _, trivial⟩, trivial⟩
theorem encMsg_spec (h : Hd) (hh : hOk h) (d0 : List D) : Spec Try.prog 65 [.agg [cI 3, cI 0, .c (.string ⟨#[]⟩), .sl 4 d0 (msgC h)]] (.rt [.one (bsD (msg h)), aI 0]) := by
  have := cdEnc_spec (msgV h) (msg_vOk h hh) (by rw [msg_depth]; omega) (by have := msg_len h; unfold msg at this; omega)
  rw [msg_out, msg_chk] at this
  exact spec_arg this (sub_msg h d0)
theorem gmessage_spec (h : Hd) (hh : hOk h) : Spec Try.prog 45 [.agg (handD h)] (.r1 (.one (.c (.string (strL (msg h)))))) := by
  refine spec_of T_ok Try.func45 (by dsimp only [Try.f45]) rfl rfl (by simp) fun w F => ?_
  repeat' (first | (with_reducible refine aw_seq ?_) | (with_reducible refine aw_stop (id := 2) ?_) | ((((with_reducible refine aw_regionA T_ok ?_ ?_); kernel_rfl)); simp only [↓avP, avQ, avR, forall_const, implies_true, Nat.reduceEqDiff, reduceCtorEq]; try simp (disch := omega) only [av_w, av_t1, av_tp, Int.toNat_natCast]))
  refine ⟨?_⟩
  refine aw_frzC 0 (handD h) rfl rfl ?_
  simp only [frzP, frzPV, if_true, reduceIte, List.drop_zero, delB]
  repeat' (first | (with_reducible refine aw_seq ?_) | ((with_reducible refine two_intro ?_ ?_) <;> intro h <;> first | contradiction | ((first | (guard_hyp h : true = true; clear h) | (guard_hyp h : false = false; clear h) | (revert h; intro _)))) | ((with_reducible refine And.intro ?_ ?_); (focus (first | exact ptrTy_intp | omega | rfl | decide))) | (with_reducible refine aw_block ?_) | ((first | (with_reducible refine aw_unroll 12 ?_) | ((with_reducible refine un_step ?_ ?_); (focus decide)) | ((with_reducible refine aw_regionA T_ok ?_ ?_); kernel_rfl) | ((with_reducible refine callI_spec (gfields_spec _) (by repeat' (first | exact ta_n | refine ta_d ?_)) ?_ ?_ ?_); kernel_rfl; kernel_rfl) | ((with_reducible refine callI_spec (encMsg_spec h hh _) (by repeat' (with_unfolding_all rfl)) ?_ ?_ ?_); kernel_rfl; kernel_rfl) | (with_reducible refine aw_skip ?_) | (with_reducible refine aw_exit ?_) | ((with_reducible refine aw_condM ?_ ?_); kernel_rfl) | (with_reducible refine aw_ret ?_) ); simp only [↓avP, avQ, avR, forall_const, implies_true, Nat.reduceEqDiff, Nat.reduceAdd, Nat.reduceSub, Int.reduceToNat, Nat.reduceLeDiff, Nat.reduceLT, reduceCtorEq, avS, handS, ptrsD, Int.reduceAdd, u8s_by, strOf_by, rootD_by, ty_3, ty_46, ty_42, ty_112, ty_111, ty_85, ty_82, ty_23, ty_9, ty_5, List.length_drop]; try simp (disch := omega) only [av_w]))
  all_goals exact Sub.refl _
def cmpB (a b : List UInt8) : Int := Lib.compareBytes a b
theorem cmpString_spec (a b : List UInt8) : Spec Try.prog 88 [.one (.c (.string (strL a))), .one (.c (.string (strL b)))] (.r1 (aI (cmpB a b))) := by
  intro F w us hF hus
  simp only [RAL, RA, RD] at hus
  obtain ⟨u, r, rfl, rfl, u2, r2, rfl, rfl, rfl⟩ := hus
  refine Calls.mono (R := fun e w' => e = .returned (.int .i64 (Lib.compareBytes a b)) ∧ w' = w) ?_ ?_
  · go_enter Try.func88, Try.ntmps88
    go_wp2
    rw [run_callFunc_extern Try.func101 (by kernel_rfl) (by kernel_rfl) (by kernel_rfl) (e := Extern.BytealgCompare.compare) (by kernel_rfl), Lib.run_compareString]
    simp only [Result.andThen]
    rw [Oper.upon_value]
    go_wp2
    go_ret
    exact ⟨rfl, rfl⟩
  · rintro e w' ⟨rfl, rfl⟩
    exact ⟨_, F, rfl, Below.refl _ _, ⟨Ft.le_refl _, fun _ _ h => .inl h, fun _ h => .inl h⟩, by simp only [RRet, RA, RD]; rfl⟩
theorem strCompare_spec (a b : List UInt8) : Spec Try.prog 72 [.one (.c (.string (strL a))), .one (.c (.string (strL b)))] (.r1 (aI (cmpB a b))) := by
  refine spec_of T_ok Try.func72 (by dsimp only [Try.f72]) rfl rfl (by simp) fun w F => ?_
  repeat' (first | (with_reducible refine aw_seq ?_) | ((first | ((with_reducible refine aw_regionA T_ok ?_ ?_); kernel_rfl) | ((with_reducible refine callI_spec (cmpString_spec _ _) (by repeat' (first | exact ta_n | refine ta_d ?_)) ?_ ?_ ?_); kernel_rfl; kernel_rfl) | (with_reducible refine aw_ret ?_) ); simp only [↓avP, avQ, avR, forall_const, implies_true, Nat.reduceEqDiff, Nat.reduceAdd, reduceCtorEq, avS]; try simp (disch := omega) only [av_w, av_t1, av_tp, Int.toNat_natCast]))
  all_goals exact Sub.refl _
theorem gcompare_spec (a b : Hd) (ha : hOk a) (hb : hOk b) : Spec Try.prog 55 [.agg (handD a), .agg (handD b)] (.r1 (aI (cmpB (msg a) (msg b)))) := by
  refine spec_of T_ok Try.func55 (by dsimp only [Try.f55]) rfl rfl (by simp) fun w F => ?_
  repeat' (first | (with_reducible refine aw_seq ?_) | ((first | ((with_reducible refine aw_regionA T_ok ?_ ?_); kernel_rfl) | ((with_reducible refine aw_drawnA T_ok ?_ ?_ ?_ ?_); kernel_rfl; kernel_rfl; (focus (decide +kernel))) | ((with_reducible refine callK_intro (gmessage_spec a ha) ?_ ?_ ?_); (focus (((repeat' (first | exact ta_n | refine ta_a ?_)); done))); kernel_rfl) | ((with_reducible refine callK_intro (gmessage_spec b hb) ?_ ?_ ?_); (focus (((repeat' (first | exact ta_n | refine ta_a ?_)); done))); kernel_rfl) | ((with_reducible refine callK_intro (strCompare_spec _ _) (by repeat' (first | exact ta_n | refine ta_d ?_)) ?_ ?_); kernel_rfl) | (with_reducible refine aw_ret ?_) ); simp only [↓avP, avQ, avR, forall_const, implies_true, Nat.reduceEqDiff, Nat.reduceAdd, Nat.reduceLeDiff, reduceCtorEq, avS, handS, ty_46]; try simp (disch := omega) only [av_w, av_t1, av_tp, Int.toNat_natCast]))
  all_goals exact Sub.refl _
end Go.Proofs.Ythidfoohhhkobaa

