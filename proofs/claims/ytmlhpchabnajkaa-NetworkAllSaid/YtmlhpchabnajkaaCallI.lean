/- x, y, e := f(..) in a region that draws its order: one call, variables laid beside it, what is taken out of its results -/
import Derived.Test.YtmlhpchabnajkaaGrow3
import Derived.Test.YtmlhpchabnajkaaFull
namespace Go.Proofs.Ytmlhpchabnajkaa
set_option linter.unusedSimpArgs false
set_option linter.unusedVariables false
open Go.RowKit
/-- a property of a value over the blocks D -/
abbrev PropD := (Nat → Prop) → Value → World → Prop
def StableD (Φ : PropD) : Prop := ∀ {D : Nat → Prop} {v : Value} {W W' : World}, (∀ b, D b → b < W.heap.size) → LeB W W' → Φ D v W → Φ D v W'
structure CallI (N0 : Nat) (F : Nat → Prop) (kc : Nat) (dep : List (Nat × PropD)) (al : List (Nat × Array Value × TypeId)) (s : Nat → Bool) (f : Nat → Value) (W : World) : Prop where
  size : N0 ≤ W.heap.size
  data : ∃ D : Nat → Prop, (∀ b, D b → (F b ∨ N0 ≤ b) ∧ b < W.heap.size) ∧ (∀ e ∈ dep, s e.1 = true → s kc = true ∧ e.2 D (f e.1) W) ∧ ∀ e ∈ al, s e.1 = true → ∃ g, f e.1 = .pointer (some ⟨g, 0, none⟩) ∧ N0 ≤ g ∧ ¬ D g ∧ Box W g e.2.1 e.2.2
  far : ∀ e ∈ al, ∀ e' ∈ al, e.1 ≠ e'.1 → s e.1 = true → s e'.1 = true → f e.1 ≠ f e'.1
section
variable {P : Program} {N0 kc : Nat} {F : Nat → Prop} {dep : List (Nat × PropD)} {al : List (Nat × Array Value × TypeId)}
theorem callI_lawful (hd : ∀ e ∈ dep, StableD e.2) : LawfulI LeB (CallI N0 F kc dep al) := ⟨LeB.trans, fun {s f W W'} h hI => by
  obtain ⟨h1, ⟨D, h2, h3, h4⟩, h5⟩ := hI
  refine ⟨Nat.le_trans h1 h.size, ⟨D, fun b hb => ⟨(h2 b hb).1, Nat.lt_of_lt_of_le (h2 b hb).2 h.size⟩, fun e he hs => ⟨(h3 e he hs).1, hd e he (fun b hb => (h2 b hb).2) h (h3 e he hs).2⟩, fun e he hs => ?_⟩, h5⟩
  obtain ⟨g, e1, e2, e3, e4⟩ := h4 e he hs
  exact ⟨g, e1, e2, e3, e4.below h⟩⟩
theorem callI_start {w : World} (h : N0 ≤ w.heap.size) : CallI N0 F kc dep al (fun _ => false) (fun _ => undef) w :=
  ⟨h, ⟨fun _ => False, fun _ h => h.elim, (fun _ _ h => by cases h), (fun _ _ h => by cases h)⟩, (fun _ _ _ _ _ h => by cases h)⟩
variable {w0 : World} {o : Oper} {a : Act} {f : Nat → Value}
theorem updS_same (s : Nat → Bool) (k : Nat) : updS s k k = true := if_pos rfl
theorem updS_other (s : Nat → Bool) {k j : Nat} (h : j ≠ k) : updS s k j = s j := if_neg h
theorem growUpon_mono {Φ Φ' : Value → World → Prop} {W : World} {r : Result Next} (h : growUpon P LeB Φ W r) (hm : ∀ v W', LeB W W' → Φ v W' → Φ' v W') : growUpon P LeB Φ' W r := by
  cases r with
  | ok nx W' =>
    cases nx <;> simp only [growUpon] at h ⊢
    · exact ⟨h.1, hm _ _ h.1 h.2⟩
    · exact ⟨h.1, h.2.mono fun e W'' ⟨v, he, hle, hp⟩ => ⟨v, he, hle, hm _ _ (h.1.trans hle) hp⟩⟩
  | halt x W' => simp only [growUpon] at h
theorem stable_nil : ∀ e ∈ ([] : List (Nat × PropD)), StableD e.2 := fun e h => by cases h
theorem stable_cons {k : Nat} {Φ : PropD} {l : List (Nat × PropD)} (h : StableD Φ) (t : ∀ e ∈ l, StableD e.2) : ∀ e ∈ (k, Φ) :: l, StableD e.2 := fun e he => by
  rcases List.mem_cons.1 he with rfl | he
  · exact h
  · exact t e he
/-- the call -/
theorem callI_call {Φ : PropD} (hN : N0 ≤ w0.heap.size) (hF : ∀ b, F b → b < N0) (hk : ∀ e ∈ dep, e.1 = kc → e.2 = Φ) (hal : ∀ e ∈ al, e.1 ≠ kc)
    (hc : ∀ p : LaterG LeB w0, growUpon P LeB (fun v W' => Φ (fun b => (F b ∨ p.W.heap.size ≤ b) ∧ b < W'.heap.size) v W') p.W ((execOp a.eval o).run P p.W)) :
    gheavyI P LeB w0 (CallI N0 F kc dep al) [] kc o a f := by
  intro p s f' _ hs hI
  refine growUpon_mono (hc p) fun v W' hle hp => ?_
  obtain ⟨h1, ⟨D, h2, h3, h4⟩, h5⟩ := hI
  refine ⟨Nat.le_trans h1 hle.size, ⟨fun b => (F b ∨ p.W.heap.size ≤ b) ∧ b < W'.heap.size, fun b hb => ⟨hb.1.imp id (fun h => Nat.le_trans h1 h), hb.2⟩, fun e he hse => ?_, fun e he hse => ?_⟩, fun e he e' he' hne hse hse' => ?_⟩
  · refine ⟨updS_same _ _, ?_⟩
    by_cases hek : e.1 = kc
    · rw [hek, upd_same, hk e he hek]; exact hp
    · rw [updS_other _ hek] at hse
      have := (h3 e he hse).1
      rw [hs] at this
      cases this
  · have hek := hal e he
    rw [updS_other _ hek] at hse
    obtain ⟨g, e1, e2, e3, e4⟩ := h4 e he hse
    refine ⟨g, by rw [upd_other _ _ hek]; exact e1, e2, fun hb => ?_, e4.below hle⟩
    have := e4.lt
    rcases hb.1 with h | h
    · have := hF g h; omega
    · omega
  · rw [updS_other _ (hal e he)] at hse
    rw [updS_other _ (hal e' he')] at hse'
    rw [upd_other _ _ (hal e he), upd_other _ _ (hal e' he')]
    exact h5 e he e' he' hne hse hse'
/-- what is taken out of what has come -/
theorem callI_dep {k j : Nat} {Φ Ψ : PropD} (hj : (j, Φ) ∈ dep) (hkc : k ≠ kc) (hk : ∀ e ∈ dep, e.1 = k → e.2 = Ψ) (hal : ∀ e ∈ al, e.1 ≠ k)
    (hc : ∀ (p : LaterG LeB w0) (D : Nat → Prop), Φ D (f j) p.W → growUpon P LeB (fun u W' => W' = p.W ∧ Ψ D u W') p.W ((execOp a.eval o).run P p.W)) :
    gheavyI P LeB w0 (CallI N0 F kc dep al) [j] k o a f := by
  intro p s f' hd hs hI
  obtain ⟨h1, ⟨D, h2, h3, h4⟩, h5⟩ := hI
  obtain ⟨hsj, hfj⟩ := hd j (by simp)
  obtain ⟨hskc, hΦ⟩ := h3 _ hj hsj
  simp only at hΦ
  rw [hfj] at hΦ
  refine growUpon_mono (hc p D hΦ) fun u W' _ ⟨hW', hΨ⟩ => ?_
  subst hW'
  refine ⟨h1, ⟨D, h2, fun e he hse => ?_, fun e he hse => ?_⟩, fun e he e' he' hne hse hse' => ?_⟩
  · refine ⟨by rw [updS_other _ hkc.symm]; exact hskc, ?_⟩
    by_cases hek : e.1 = k
    · rw [hek, upd_same, hk e he hek]; exact hΨ
    · rw [updS_other _ hek] at hse
      rw [upd_other _ _ hek]
      exact (h3 e he hse).2
  · have hek := hal e he
    rw [updS_other _ hek] at hse
    rw [upd_other _ _ hek]
    exact h4 e he hse
  · rw [updS_other _ (hal e he)] at hse
    rw [updS_other _ (hal e' he')] at hse'
    rw [upd_other _ _ (hal e he), upd_other _ _ (hal e' he')]
    exact h5 e he e' he' hne hse hse'
/-- a variable -/
theorem callI_alloc {k : Nat} {cs : Array Value} {t : TypeId} (hkc : k ≠ kc) (hdep : ∀ e ∈ dep, e.1 ≠ k) (hal : ∀ e ∈ al, e.1 = k → e.2 = (cs, t))
    (hd : ∀ e ∈ dep, StableD e.2)
    (hc : ∀ p : LaterG LeB w0, growUpon P LeB (fun u W' => u = .pointer (some ⟨p.W.heap.size, 0, none⟩) ∧ W' = p.W.alloc (.cells cs t)) p.W ((execOp a.eval o).run P p.W)) :
    gheavyI P LeB w0 (CallI N0 F kc dep al) [] k o a f := by
  intro p s f' _ hs hI
  refine growUpon_mono (hc p) fun u W' hle ⟨hu, hW'⟩ => ?_
  subst hu hW'
  obtain ⟨h1, ⟨D, h2, h3, h4⟩, h5⟩ := hI
  refine ⟨Nat.le_trans h1 hle.size, ⟨D, fun b hb => ⟨(h2 b hb).1, Nat.lt_of_lt_of_le (h2 b hb).2 hle.size⟩, fun e he hse => ?_, fun e he hse => ?_⟩, fun e he e' he' hne hse hse' => ?_⟩
  · have hek := hdep e he
    rw [updS_other _ hek] at hse
    rw [updS_other _ hkc.symm, upd_other _ _ hek]
    exact ⟨(h3 e he hse).1, hd e he (fun b hb => (h2 b hb).2) hle (h3 e he hse).2⟩
  · by_cases hek : e.1 = k
    · rw [hek, upd_same, hal e he hek]
      exact ⟨_, rfl, h1, fun hb => Nat.lt_irrefl _ (h2 _ hb).2, Box.new _ _ _⟩
    · rw [updS_other _ hek] at hse
      rw [upd_other _ _ hek]
      obtain ⟨g, e1, e2, e3, e4⟩ := h4 e he hse
      exact ⟨g, e1, e2, e3, e4.below hle⟩
  · have key : ∀ e ∈ al, e.1 ≠ k → s e.1 = true → f' e.1 ≠ .pointer (some ⟨p.W.heap.size, 0, none⟩) := fun e he hek hse heq => by
      obtain ⟨g, e1, _, _, e4⟩ := h4 e he hse
      rw [e1] at heq
      cases heq
      exact Nat.lt_irrefl _ e4.lt
    by_cases hek : e.1 = k
    · have hek' : e'.1 ≠ k := fun h => hne (hek.trans h.symm)
      rw [updS_other _ hek'] at hse'
      rw [hek, upd_same, upd_other _ _ hek']
      exact (key e' he' hek' hse').symm
    · rw [updS_other _ hek] at hse
      by_cases hek' : e'.1 = k
      · rw [hek', upd_same, upd_other _ _ hek]
        exact key e he hek hse
      · rw [updS_other _ hek'] at hse'
        rw [upd_other _ _ hek, upd_other _ _ hek']
        exact h5 e he e' he' hne hse hse'
end
end Go.Proofs.Ytmlhpchabnajkaa
