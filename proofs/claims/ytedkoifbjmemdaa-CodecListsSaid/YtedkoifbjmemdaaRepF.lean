/- values that lie in blocks of a kind -/
import Derived.Test.YtedkoifbjmemdaaRdNum
namespace Go.Proofs.Ytedkoifbjmemdaa
open Go.RowKit
mutual
def RepF (F : Nat → Prop) (w : World) : V → Value → Prop
  | .mk k n s l, c => ∃ a cap, c = .agg #[.int .i64 k, .int .i64 n, .string ⟨s.toArray⟩, .slice a l.length cap] ∧ i64R k ∧ i64R n ∧ s.length ≤ 140737488351232 ∧ l.length ≤ cap ∧ l.length ≤ 140737488351232 ∧ RepFL F w l a
def RepFL (F : Nat → Prop) (w : World) : List V → Option Addr → Prop
  | [], _ => True
  | v :: l, a => ∃ b off c0 c1 c2 c3, F b ∧ a = some ⟨b, off, none⟩ ∧ w.cell? ⟨b, off, none⟩ = some c0 ∧ w.cell? ⟨b, off + 1, none⟩ = some c1 ∧ w.cell? ⟨b, off + 2, none⟩ = some c2 ∧ w.cell? ⟨b, off + 3, none⟩ = some c3 ∧ RepF F w v (.agg #[c0, c1, c2, c3]) ∧ RepFL F w l (some ⟨b, off + 4, none⟩)
end
mutual
theorem RepF.rep {F : Nat → Prop} {w : World} : ∀ {v : V} {c : Value}, RepF F w v c → RepV w v c
  | .mk k n s l, c, h => by
    simp only [RepF] at h
    simp only [RepV]
    obtain ⟨a, cap, h1, h2, h3, h4, h5, h6, h7⟩ := h
    exact ⟨a, cap, h1, h2, h3, h4, h5, h6, RepFL.rep h7⟩
theorem RepFL.rep {F : Nat → Prop} {w : World} : ∀ {l : List V} {a : Option Addr}, RepFL F w l a → RepL w l a
  | [], _, _ => by simp only [RepL]
  | v :: l, a, h => by
    simp only [RepFL] at h
    simp only [RepL]
    obtain ⟨b, off, c0, c1, c2, c3, _, e, h0, h1, h2, h3, hv, hl⟩ := h
    exact ⟨b, off, c0, c1, c2, c3, e, h0, h1, h2, h3, RepF.rep hv, RepFL.rep hl⟩
end
mutual
theorem RepF.keep {F F' : Nat → Prop} {w w' : World} (hF : ∀ b, F b → F' b) (hk : ∀ b, F b → w'.heap[b]? = w.heap[b]?) : ∀ {v : V} {c : Value}, RepF F w v c → RepF F' w' v c
  | .mk k n s l, c, h => by
    simp only [RepF] at h ⊢
    obtain ⟨a, cap, h1, h2, h3, h4, h5, h6, h7⟩ := h
    exact ⟨a, cap, h1, h2, h3, h4, h5, h6, RepFL.keep hF hk h7⟩
theorem RepFL.keep {F F' : Nat → Prop} {w w' : World} (hF : ∀ b, F b → F' b) (hk : ∀ b, F b → w'.heap[b]? = w.heap[b]?) : ∀ {l : List V} {a : Option Addr}, RepFL F w l a → RepFL F' w' l a
  | [], _, _ => by simp only [RepFL]
  | v :: l, a, h => by
    simp only [RepFL] at h ⊢
    obtain ⟨b, off, c0, c1, c2, c3, hf, e, h0, h1, h2, h3, hv, hl⟩ := h
    have hc : ∀ o u, w.cell? ⟨b, o, none⟩ = some u → w'.cell? ⟨b, o, none⟩ = some u := fun o u hu => (World.cell?_of_block (w := w) (w' := w') (a := ⟨b, o, none⟩) (hk b hf)).trans hu
    exact ⟨b, off, c0, c1, c2, c3, hF b hf, e, hc _ _ h0, hc _ _ h1, hc _ _ h2, hc _ _ h3, RepF.keep hF hk hv, RepFL.keep hF hk hl⟩
end
theorem RepF.form {F : Nat → Prop} {w : World} {v : V} {c : Value} (h : RepF F w v c) : ∃ k n s a len cap, c = .agg #[.int .i64 k, .int .i64 n, .string s, .slice a len cap] := h.rep.form
/-- the cells of a row of values -/
def CellsL (F : Nat → Prop) (w : World) : List V → List Value → Prop
  | [], xs => xs = []
  | v :: l, xs => ∃ c0 c1 c2 c3 ys, xs = c0 :: c1 :: c2 :: c3 :: ys ∧ RepF F w v (.agg #[c0, c1, c2, c3]) ∧ CellsL F w l ys
theorem CellsL.keep {F F' : Nat → Prop} {w w' : World} (hF : ∀ b, F b → F' b) (hk : ∀ b, F b → w'.heap[b]? = w.heap[b]?) : ∀ {l : List V} {xs : List Value}, CellsL F w l xs → CellsL F' w' l xs
  | [], _, h => h
  | v :: l, xs, h => by
    simp only [CellsL] at h ⊢
    obtain ⟨c0, c1, c2, c3, ys, e, h1, h2⟩ := h
    exact ⟨c0, c1, c2, c3, ys, e, h1.keep hF hk, h2.keep hF hk⟩
theorem CellsL.snoc {F : Nat → Prop} {w : World} {v : V} {c0 c1 c2 c3 : Value} (hv : RepF F w v (.agg #[c0, c1, c2, c3])) : ∀ {l : List V} {xs : List Value}, CellsL F w l xs → CellsL F w (l ++ [v]) (xs ++ [c0, c1, c2, c3])
  | [], xs, h => by
    simp only [CellsL] at h
    subst h
    simp only [List.nil_append, CellsL]
    exact ⟨c0, c1, c2, c3, [], rfl, hv, rfl⟩
  | x :: l, xs, h => by
    simp only [CellsL, List.cons_append] at h ⊢
    obtain ⟨d0, d1, d2, d3, ys, rfl, h1, h2⟩ := h
    exact ⟨d0, d1, d2, d3, ys ++ [c0, c1, c2, c3], rfl, h1, CellsL.snoc hv h2⟩
theorem CellsL.at {F G : Nat → Prop} {w : World} {g : Nat} (hG : G g) (hF : ∀ b, F b → G b) : ∀ {l : List V} {xs : List Value} (off : Nat), CellsL F w l xs → (∀ j u, xs[j]? = some u → w.cell? ⟨g, off + j, none⟩ = some u) → RepFL G w l (some ⟨g, off, none⟩)
  | [], _, _, _, _ => by simp only [RepFL]
  | v :: l, xs, off, h, hc => by
    simp only [CellsL] at h
    simp only [RepFL]
    obtain ⟨c0, c1, c2, c3, ys, rfl, h1, h2⟩ := h
    refine ⟨g, off, c0, c1, c2, c3, hG, rfl, hc 0 c0 rfl, hc 1 c1 rfl, hc 2 c2 rfl, hc 3 c3 rfl, h1.keep hF (fun _ _ => rfl), CellsL.at hG hF (off + 4) h2 fun j u hu => ?_⟩
    have := hc (j + 4) u (by simpa using hu)
    rw [show off + 4 + j = off + (j + 4) by omega]
    exact this
/-- a row of the call's own, as a list of values -/
theorem own_repFL {F G : Nat → Prop} {w : World} {base : Nat} {l : List V} {a : Option Addr} {cap : Nat} {xs : List Value} (ho : w.ownsRow base 24 4 (.slice a l.length cap) l.length xs) (hc : CellsL F w l xs)
    (hG : ∀ g, base ≤ g → g < w.heap.size → G g) (hF : ∀ b, F b → G b) : RepFL G w l a ∧ l.length ≤ cap := by
  have hlt := ho.lt
  have hcells := fun g hg => ho.cells (g := g) hg
  rcases ho.2 with ⟨h1, h2⟩ | ⟨g, cap', cur, h1, h2, h3, h4, h5⟩
  · have : l = [] := List.eq_nil_of_length_eq_zero h2
    subst this
    injection h1 with h1 h1' h1''
    subst h1''
    exact ⟨by simp only [RepFL], by simp⟩
  · injection h1 with h1 h1' h1''
    subst h1 h1''
    refine ⟨CellsL.at (hG g h2 (hlt g rfl).2) hF 0 hc fun j u hu => ?_, h4⟩
    have := hcells g rfl j u hu
    rw [Nat.zero_add]
    by_cases hj : j = 0
    · subst hj; simpa [Addr.add] using this
    · simpa [Addr.add, hj] using this

theorem decNum_lt {bs : List UInt8} {u : Nat} {r : List UInt8} (h : decNum bs = some (u, r)) : u < 18446744073709551616 ∧ r.length ≤ bs.length := by
  obtain ⟨h1, h2⟩ := num_decNum h
  exact ⟨h2, by rw [h1]; simp⟩
def decLen (bs : List UInt8) : Option (Nat × List UInt8) := match decNum bs with
  | none => none
  | some (n, r) => if n ≤ r.length then some (n, r) else none
def LenRd (bs : List UInt8) (B : Nat) (w : World) (e : Ending) (w' : World) : Prop :=
  w.grownBy w' (some B) ∧ ((∃ n r, decLen bs = some (n, r) ∧ n ≤ r.length ∧ r.length ≤ bs.length ∧ e = .returned (.int .i64 (n : Nat)) ∧ Rd w' B r) ∨ (decLen bs = none ∧ e = .panicked codeP))
set_option maxRecDepth 100000 in
set_option maxHeartbeats 3200000 in
theorem length_any (bs : List UInt8) (B : Nat) (w : World) (hr : Rd w B bs) : Calls Try.prog 47 #[.pointer (some ⟨B, 0, none⟩)] w (LenRd bs B w) := by
  have HW : Hid (∀ p w, Calls Try.prog 33 #[p, .bool true] w fun e w' => e = .returned (.tuple #[]) ∧ w = w') := want_yes
  have HN : Hid (∀ p w, Calls Try.prog 33 #[p, .bool false] w fun e w' => e = .panicked codeP ∧ w = w') := want_no
  have HR := Lib.hid hr
  clear hr
  go_enter Try.func47, Try.ntmps47
  go_wp2_with fail
  refine (number_any bs B w HR.out).mono ?_
  rintro e w1 ⟨hg1, ⟨u, r, hd, rfl, hrd⟩ | ⟨hd, rfl⟩⟩
  · obtain ⟨hu, hrb⟩ := decNum_lt hd
    obtain ⟨a, cap, hB, hl, hcap, hby, hlt⟩ := hrd
    have hc0 := cell_of hB
    have HRD : Hid (Rd w1 B r) := ⟨a, cap, hB, hl, hcap, hby, hlt⟩
    have HD := Lib.hid hd
    have HU := Lib.hid hu
    clear hB hby hlt hd
    by_cases hle : u ≤ r.length
    · have hle' : (u : Int) ≤ r.length := by omega
      have HDL : Hid (decLen bs = some (u, r)) := by unfold Hid decLen; rw [HD.out]; simp [hle]
      go_wp2_with fail
      with_reducible refine (HW.out _ _).mono ?_
      rintro e w2 ⟨rfl, rfl⟩
      go_wp2
      go_ret
      exact ⟨hg1, .inl ⟨u, r, HDL.out, hle, hrb, rfl, HRD.out⟩⟩
    · have hle' : decide ((u : Int) ≤ r.length) = false := by simp; omega
      have hle2 : decide (u ≤ r.length) = false := by simp; omega
      have HDL : Hid (decLen bs = none) := by unfold Hid decLen; rw [HD.out]; simp [hle]
      go_wp2_with fail
      with_reducible refine (HN.out _ _).mono ?_
      rintro e w2 ⟨rfl, rfl⟩
      exact ⟨rfl, hg1, .inr ⟨HDL.out, rfl⟩⟩
  · exact ⟨rfl, hg1, .inr ⟨by unfold decLen; rw [hd], rfl⟩⟩
end Go.Proofs.Ytedkoifbjmemdaa
