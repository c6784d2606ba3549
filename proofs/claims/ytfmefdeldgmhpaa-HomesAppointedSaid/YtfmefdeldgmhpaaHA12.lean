import Derived.Test.YtfmefdeldgmhpaaHA10
import Derived.Test.YtfmefdeldgmhpaaHA9
import Derived.Test.YtfmefdeldgmhpaaHA11
namespace Go.Proofs.Ytfmefdeldgmhpaa
set_option linter.unusedSimpArgs false
set_option linter.unusedVariables false
open Go.RowKit
/-- each one the agent of the one before; the last one's agent is o -/
def PathL (nx : Int → Option Int) (o : Option Int) : List Int → Prop
  | [] => False
  | [p] => nx p = o
  | p :: q :: r => nx p = some q ∧ PathL nx o (q :: r)
theorem chain_spec (nx : Int → Option Int) (K : List Int) (hK : ∀ p, nx p ≠ none → p ∈ K) : ∀ (n : Nat) (met : List Int) (p : Int), p ∉ met → (K.filter (fun x => decide (x ∉ met))).length ≤ n →
    (∃ r, (chainF nx n met p).1 = p :: r) ∧ (chainF nx n met p).1.Nodup ∧ (∀ x ∈ (chainF nx n met p).1, x ∉ met) ∧
      ∃ o, PathL nx o (chainF nx n met p).1 ∧ ((chainF nx n met p).2 = true → ∃ q, o = some q ∧ (q ∈ met ∨ q ∈ (chainF nx n met p).1)) ∧ ((chainF nx n met p).2 = false → o = none) := by
  intro n
  induction n with
  | zero =>
    intro met p hp hn
    have hnx : nx p = none := by
      cases h : nx p with
      | none => rfl
      | some q => have := filter_shrinks K met p (hK p (by rw [h]; simp)) hp; omega
    exact ⟨⟨[], rfl⟩, by simp [chainF], by simpa [chainF] using hp, none, hnx, by simp [chainF], fun _ => rfl⟩
  | succ n ih =>
    intro met p hp hn
    simp only [chainF]
    cases h : nx p with
    | none => exact ⟨⟨[], rfl⟩, by simp, by simpa using hp, none, h, by simp, fun _ => rfl⟩
    | some q =>
      simp only []
      by_cases hq : q ∈ p :: met
      · rw [if_pos hq]
        refine ⟨⟨[], rfl⟩, by simp, by simpa using hp, some q, h, fun _ => ⟨q, rfl, ?_⟩, by simp⟩
        rcases List.mem_cons.1 hq with e | e
        · exact .inr (by simp [e])
        · exact .inl e
      · rw [if_neg hq]
        have hs := filter_shrinks K met p (hK p (by rw [h]; simp)) hp
        obtain ⟨⟨r, h1⟩, h2, h3, o, h4, h5, h6⟩ := ih (p :: met) q hq (by omega)
        refine ⟨⟨_, rfl⟩, ?_, ?_, o, ?_, ?_, h6⟩
        · simp only [List.nodup_cons]
          exact ⟨fun hm => h3 p hm (by simp), h2⟩
        · intro x hx
          rcases List.mem_cons.1 hx with rfl | hx
          · exact hp
          · exact fun hm => h3 x hx (by simp [hm])
        · simp only [h1] at h4 ⊢
          exact ⟨h, h4⟩
        · intro hc
          obtain ⟨z, e, hz⟩ := h5 hc
          refine ⟨z, e, ?_⟩
          rcases hz with hz | hz
          · rcases List.mem_cons.1 hz with rfl | hz
            · exact .inr (by simp)
            · exact .inl hz
          · exact .inr (List.mem_cons_of_mem _ hz)
theorem asked_spec (xs : List Ent) (p : Int) : (∃ r, (askedL xs p).1 = p :: r) ∧ (askedL xs p).1.Nodup ∧
      ∃ o, PathL (nxK xs) o (askedL xs p).1 ∧ ((askedL xs p).2 = true → ∃ q, o = some q ∧ q ∈ (askedL xs p).1) ∧ ((askedL xs p).2 = false → o = none) := by
  obtain ⟨h1, h2, _, o, h4, h5, h6⟩ := chain_spec (nxK xs) (xs.map (·.a)) (nxK_mem xs) xs.length [] p (by simp) (by exact Nat.le_trans (List.length_filter_le _ _) (by simp))
  exact ⟨h1, h2, o, h4, fun hc => by obtain ⟨q, e, hq⟩ := h5 hc; exact ⟨q, e, by simpa [askedL] using hq⟩, h6⟩
theorem path_at {nx : Int → Option Int} {o : Option Int} : ∀ {l : List Int}, PathL nx o l → ∀ i, i < l.length → nx (l.getD i 0) = if i + 1 < l.length then some (l.getD (i + 1) 0) else o
  | [], h, _, hi => by simp at hi
  | [p], h, i, hi => by
    have : i = 0 := by simpa using hi
    subst this
    simpa [PathL] using h
  | p :: q :: r, h, 0, hi => by simpa using h.1
  | p :: q :: r, h, i + 1, hi => by
    have := path_at h.2 i (by simpa using hi)
    simpa using this
theorem asked_more (xs : List Ent) (p : Int) (m : Nat) (h : xs.length ≤ m) : chainF (nxK xs) m [] p = askedL xs p :=
  chainF_more (nxK xs) (xs.map (·.a)) (nxK_mem xs) xs.length [] p (by simp) (Nat.le_trans (List.length_filter_le _ _) (by simp)) m h
theorem asked_ne (xs : List Ent) (p : Int) : (askedL xs p).1 ≠ [] := by
  obtain ⟨⟨r, h⟩, _⟩ := asked_spec xs p
  rw [h]; simp
def validL (l : List Ent) (person day time : Int) : Bool := decide (l.length ≤ 24) && (checkL l == 0) && decide (0 ≤ person) && decide (person ≤ 1048576) && decide (0 ≤ day) && decide (day < 2097152) && decide (0 ≤ time) && decide (time < 2097152)
structure FineL (l : List Ent) (person day time : Int) : Prop where
  few : l.length ≤ 24
  good : checkL l = 0
  p0 : 0 ≤ person
  p1 : person ≤ 1048576
  d0 : 0 ≤ day
  d1 : day < 2097152
  t0 : 0 ≤ time
  t1 : time < 2097152
theorem fineL_of {l : List Ent} {person day time : Int} (h : validL l person day time = true) : FineL l person day time := by
  simp only [validL, Bool.and_eq_true, decide_eq_true_eq, beq_iff_eq] at h
  obtain ⟨⟨⟨⟨⟨⟨⟨h1, h2⟩, h3⟩, h4⟩, h5⟩, h6⟩, h7⟩, h8⟩ := h
  exact ⟨h1, h2, h3, h4, h5, h6, h7, h8⟩
theorem FineL.errS {l : List Ent} {person day time : Int} (h : FineL l person day time) : errS l day time = 0 := errS_of h.good h.d0 h.d1 h.t0 h.t1
theorem FineL.errO {l : List Ent} {person day time : Int} (h : FineL l person day time) : errO l person day time = 0 := by
  have h1 := h.p0; have h2 := h.p1
  rw [Go.Proofs.Ytfmefdeldgmhpaa.errO, if_neg (by simpa using h.errS), if_neg (by omega)]
theorem FineL.sub {l m : List Ent} {person day time : Int} (h : FineL l person day time) (hm : List.Sublist m l) : FineL m person day time := { h with few := Nat.le_trans hm.length_le h.few, good := checkL_sub h.good hm }
end Go.Proofs.Ytfmefdeldgmhpaa


namespace Go.Proofs.Ytfmefdeldgmhpaa
set_option linter.unusedSimpArgs false
set_option linter.unusedVariables false
open Go.RowKit
set_option maxRecDepth 100000
set_option maxHeartbeats 4000000
theorem lastI (l : List Int) (p : Int) (h : l ≠ []) : l.getD (l.length - 1) 0 = lastOf l p := by
  obtain ⟨x, r, rfl⟩ := List.exists_cons_of_ne_nil h
  simp [lastOf, List.getLastD_eq_getLast?, List.getLast?_eq_getElem?, List.getD]

end Go.Proofs.Ytfmefdeldgmhpaa

