import Derived.Test.YtncihbmehbiekaaRC6
namespace Go.Proofs.Ytncihbmehbiekaa
set_option linter.unusedSimpArgs false
set_option linter.unusedVariables false
open Go.RowKit
def plOK (x : LotP) : Prop := x.perm.length = x.inn.length ∧ x.perm.Nodup ∧ ∀ p ∈ x.perm, 0 ≤ p ∧ p < (x.inn.length : Int)
/-- g knows at least what f knows -/
structure FinF (f g : FlowP) : Prop where
  s : g.senders = f.senders
  l : g.lots.length = f.lots.length
  lots : ∀ k, k < f.lots.length → g.lots.getD k default = f.lots.getD k default ∨ ((f.lots.getD k default).known = false ∧ (g.lots.getD k default).known = true ∧ (g.lots.getD k default).inn = (f.lots.getD k default).inn ∧ plOK (g.lots.getD k default))
section
variable {f g : FlowP}
theorem FinF.inn (h : FinF f g) {k : Nat} (hk : k < f.lots.length) : (g.lots.getD k default).inn = (f.lots.getD k default).inn := by
  rcases h.lots k hk with e | ⟨_, _, e, _⟩
  · rw [e]
  · exact e
theorem FinF.inns (h : FinF f g) : ∀ k, k ≤ f.lots.length → (g.lots.take k).map (·.inn) = (f.lots.take k).map (·.inn) := by
  intro k hk
  refine List.ext_getElem? fun i => ?_
  rw [List.getElem?_map, List.getElem?_map, List.getElem?_take, List.getElem?_take]
  by_cases hi : i < k
  · rw [if_pos hi, if_pos hi]
    have e1 : g.lots[i]? = some (g.lots.getD i default) := by rw [List.getD, List.getElem?_eq_getElem (by rw [h.l]; omega)]; rfl
    have e2 : f.lots[i]? = some (f.lots.getD i default) := by rw [List.getD, List.getElem?_eq_getElem (by omega)]; rfl
    rw [e1, e2, Option.map_some, Option.map_some, h.inn (by omega)]
  · rw [if_neg hi, if_neg hi]
theorem FinF.bef (h : FinF f g) {k : Nat} (hk : k ≤ f.lots.length) : befF g k = befF f k := by
  unfold befF
  have := congrArg (fun l : List (List Int) => (l.map List.length).sum) (h.inns k hk)
  simp only [List.map_map] at this
  have e : (List.length ∘ fun x : LotP => x.inn) = fun x : LotP => x.inn.length := rfl
  rw [e] at this
  rw [h.s, this]
theorem FinF.gone (h : FinF f g) {k : Nat} (hk : k ≤ f.lots.length) : goneF g k = goneF f k := by
  unfold goneF
  rw [List.flatMap_def, List.flatMap_def, h.inns k hk]
theorem FinF.check (h : FinF f g) (hc : checkF f = 0) : checkF g = 0 := by
  obtain ⟨z1, z2, z3, z4, z5⟩ := checkF_zero hc
  unfold checkF
  rw [h.l, h.bef (Nat.le_refl _), h.s, if_neg (by omega), if_neg (by omega), if_pos]
  unfold validF
  rw [h.l, List.all_eq_true]
  intro i hi
  have hil : i < f.lots.length := by simpa using hi
  have hg := goodL_at hc hil
  unfold okAt
  rw [h.bef (by omega), h.gone (by omega), goodL_iff]
  rcases h.lots i hil with e | ⟨_, e2, e3, e4⟩
  · rw [e]; exact hg
  · exact ⟨by rw [e3]; exact hg.ne, by rw [e3]; exact hg.nd, by rw [e3]; exact hg.fr, fun _ => e4, fun h => by rw [e2] at h; simp at h⟩
theorem FinF.ends (h : FinF f g) : endsF g = endsF f := by
  unfold endsF
  rw [h.l, h.bef (Nat.le_refl _), h.gone (Nat.le_refl _)]
theorem FinF.sp (h : FinF f g) (s : Int) : ∀ k, k ≤ f.lots.length → ∀ m, m ∈ spL g s k → m ∈ spL f s k
  | 0, _, m, hm => hm
  | k + 1, hk, m, hm => by
    have ih := h.sp s k (by omega)
    rw [mem_spL_succ] at hm ⊢
    rcases hm with hm | ⟨j, h1, h2, h3⟩
    · exact .inl (ih m hm)
    · rw [h.inn (by omega)] at h1
      rw [h.bef (by omega)] at h2
      refine .inr ⟨j, h1, h2, ?_⟩
      rw [canB_iff] at h3 ⊢
      obtain ⟨i, i1, i2, i3⟩ := h3
      rw [h.inn (by omega)] at i1 i2
      refine ⟨i, i1, ih _ i2, ?_⟩
      rcases h.lots k (by omega) with e | ⟨e, _⟩
      · rw [e] at i3; exact i3
      · exact .inl e
/-- where the letter of a known flow is, is among its spots -/
theorem follow_sp (hc : checkF g = 0) (hk : knownF g = true) (s : Nat) (hs : (s : Int) < g.senders) : ∀ k, k ≤ g.lots.length → followK g k s ∈ spL g s k
  | 0, _ => by simp [followK, spL]
  | k + 1, hkl => by
    have ih := follow_sp hc hk s hs k (by omega)
    have hlt : k < g.lots.length := by omega
    have hg := goodL_at hc hlt
    have hpl := hg.pl (knownF_at hk hlt)
    rw [mem_spL_succ, followK, stepF]
    split
    · rename_i hm
      obtain ⟨i1, i2⟩ := idx_get hm
      have hp := hpl.2.2 _ (getD_mem (show List.idxOf (followK g k s) (g.lots.getD k default).inn < (g.lots.getD k default).perm.length by rw [hpl.1]; exact i1))
      exact .inr ⟨((g.lots.getD k default).perm.getD ((g.lots.getD k default).inn.idxOf (followK g k s)) 0).toNat, by omega, by omega, canB_iff.2 ⟨_, i1, by rw [i2]; exact ih, .inr (by omega)⟩⟩
    · exact .inl ih
theorem follow_end (hc : checkF g = 0) (hk : knownF g = true) (s : Nat) (hs : (s : Int) < g.senders) : followK g g.lots.length s ∈ endsF g := by
  rw [mem_endsF]
  exact follow_in hc hk s hs (Nat.le_refl _)
theorem FinF.way_end (h : FinF f g) (hc : checkF f = 0) (hk : knownF g = true) (s : Nat) (hs : (s : Int) < f.senders) : followK g g.lots.length s ∈ endS f s := by
  have h1 := follow_end (h.check hc) hk s (by rw [h.s]; exact hs)
  have h2 := follow_sp (h.check hc) hk s (by rw [h.s]; exact hs) _ (Nat.le_refl _)
  rw [h.ends] at h1
  rw [h.l] at h1 h2 ⊢
  exact List.mem_filter.2 ⟨h1, decide_eq_true (h.sp s _ (Nat.le_refl _) _ h2)⟩
theorem mem_endS {t s : Int} : t ∈ endS f s ↔ t ∈ endsF f ∧ t ∈ spL f s f.lots.length := by
  unfold endS
  rw [List.mem_filter, decide_eq_true_eq]
/-- the way in which nothing is shuffled -/
def idL (x : LotP) : LotP := if x.known = true then x else ⟨x.inn, true, (List.range x.inn.length).map fun n : Nat => (n : Int)⟩
def idW (f : FlowP) : FlowP := ⟨f.senders, f.lots.map idL⟩
theorem idW_at {k : Nat} (hk : k < f.lots.length) : (idW f).lots.getD k default = idL (f.lots.getD k default) := by
  show (f.lots.map idL).getD k default = _
  rw [List.getD, List.getD, List.getElem?_map, List.getElem?_eq_getElem hk]
  rfl
theorem range_plOK (n : Nat) : ((List.range n).map fun n : Nat => (n : Int)).Nodup ∧ ∀ p ∈ (List.range n).map fun n : Nat => (n : Int), 0 ≤ p ∧ p < (n : Int) := by
  refine ⟨List.pairwise_map.2 (List.Pairwise.imp (fun {a b} h e => h (by omega)) (List.nodup_range (n := n))), fun p hp => ?_⟩
  obtain ⟨a, h1, rfl⟩ := List.mem_map.1 hp
  have := List.mem_range.1 h1
  omega
theorem idW_fin : FinF f (idW f) := by
  refine ⟨rfl, by simp [idW], fun k hk => ?_⟩
  rw [idW_at hk, idL]
  by_cases h : (f.lots.getD k default).known = true
  · rw [if_pos h]; exact .inl rfl
  · rw [if_neg h]
    have := range_plOK (f.lots.getD k default).inn.length
    exact .inr ⟨by simpa using h, rfl, rfl, by simp, this.1, this.2⟩
theorem idW_known : knownF (idW f) = true := by
  unfold knownF
  rw [List.all_eq_true]
  intro k hk
  have hlt : k < f.lots.length := by simpa [idW] using hk
  rw [idW_at hlt, idL]
  split
  · rename_i h; rw [h]; rfl
  · rfl
theorem endS_some (hc : checkF f = 0) (s : Nat) (hs : (s : Int) < f.senders) : endS f s ≠ [] := fun h => by
  have := idW_fin.way_end hc idW_known s hs
  rw [h] at this
  simp at this
end
end Go.Proofs.Ytncihbmehbiekaa


namespace Go.Proofs.Ytncihbmehbiekaa
set_option linter.unusedSimpArgs false
set_option linter.unusedVariables false
open Go.RowKit
def swapL (l : List Int) (i k : Nat) : List Int := (l.set i (l.getD k 0)).set k (l.getD i 0)
def rngI (n : Nat) : List Int := (List.range n).map fun n : Nat => (n : Int)
def pickN (ps : List Nat) (at' i n : Nat) : Nat := i + (if at' < ps.length then ps.getD at' 0 % (n - i) else 0)
def shufI (ps : List Nat) (at' n : Nat) : Nat → List Int
  | 0 => rngI n
  | i + 1 => swapL (shufI ps at' n i) i (pickN ps (at' + i) i n)
theorem rngI_len (n : Nat) : (rngI n).length = n := by simp [rngI]
theorem swapL_len (l : List Int) (i k : Nat) : (swapL l i k).length = l.length := by simp [swapL]
theorem swapL_mem {l : List Int} {i k : Nat} (hi : i < l.length) (hk : k < l.length) {t : Int} (h : t ∈ swapL l i k) : t ∈ l := by
  unfold swapL at h
  rcases List.mem_or_eq_of_mem_set h with h | h
  · rcases List.mem_or_eq_of_mem_set h with h | h
    · exact h
    · rw [h]; exact getD_mem hk
  · rw [h]; exact getD_mem hi
theorem swapL_nd {l : List Int} {i k : Nat} (hi : i < l.length) (hk : k < l.length) (h : l.Nodup) : (swapL l i k).Nodup := by
  unfold List.Nodup
  rw [List.pairwise_iff_getElem]
  intro a b ha hb hab
  have ha' : a < l.length := by simpa [swapL] using ha
  have hb' : b < l.length := by simpa [swapL] using hb
  have inj : ∀ {c d : Nat} (hc : c < l.length) (hd : d < l.length), l[c] = l[d] → c = d := fun hc hd e => (List.getElem_inj h).1 e
  simp only [swapL, List.getElem_set, List.getD, List.getElem?_eq_getElem hi, List.getElem?_eq_getElem hk, Option.getD_some]
  split <;> split <;> (try split) <;> (try split) <;> intro e <;> have := inj _ _ e <;> omega
/-- the lots of the way -/
def wayL (ps : List Nat) (a : Nat) (x : LotP) : LotP := if x.known = true then x else ⟨x.inn, true, shufI ps a x.inn.length x.inn.length⟩
def atN (f : FlowP) : Nat → Nat
  | 0 => 0
  | k + 1 => atN f k + (if (f.lots.getD k default).known = true then 0 else (f.lots.getD k default).inn.length)
theorem atN_le (f : FlowP) : ∀ k, k ≤ f.lots.length → (atN f k : Int) ≤ befF f k - f.senders
  | 0, _ => by simp [atN, befF]
  | k + 1, h => by
    have ih := atN_le f k (by omega)
    have hb := befF_succ (f := f) (k := k) (by omega)
    rw [atN]
    split <;> omega
def wayA (f : FlowP) (ps : List Nat) (k : Nat) : List LotP := (List.range k).map fun i => wayL ps (atN f i) (f.lots.getD i default)
def wayF (f : FlowP) (ps : List Nat) : FlowP := ⟨f.senders, wayA f ps f.lots.length⟩
theorem wayA_len (f : FlowP) (ps : List Nat) (k : Nat) : (wayA f ps k).length = k := by simp [wayA]
theorem wayA_succ (f : FlowP) (ps : List Nat) (k : Nat) : wayA f ps (k + 1) = wayA f ps k ++ [wayL ps (atN f k) (f.lots.getD k default)] := by simp [wayA, List.range_succ]
end Go.Proofs.Ytncihbmehbiekaa

