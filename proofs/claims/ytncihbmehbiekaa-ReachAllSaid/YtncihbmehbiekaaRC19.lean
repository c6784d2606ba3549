import Derived.Test.YtncihbmehbiekaaRC7
import Derived.Test.YtncihbmehbiekaaRC18
namespace Go.Proofs.Ytncihbmehbiekaa
set_option linter.unusedSimpArgs false
set_option linter.unusedVariables false
open Go.RowKit
section
variable {f : FlowP}
theorem befF_le {k : Nat} : ∀ {K : Nat}, k ≤ K → K ≤ f.lots.length → befF f k ≤ befF f K
  | 0, h, _ => by rw [show k = 0 by omega]; omega
  | K + 1, h, hK => by
    rcases Nat.lt_or_ge k (K + 1) with h1 | h1
    · have := befF_le (k := k) (K := K) (by omega) (by omega)
      have := befF_succ (f := f) (k := K) (by omega)
      omega
    · rw [show k = K + 1 by omega]; omega
theorem sp_low {s : Int} {k : Nat} : ∀ {K : Nat}, k ≤ K → K ≤ f.lots.length → ∀ {t : Int}, t < befF f k → (t ∈ spL f s K ↔ t ∈ spL f s k)
  | 0, h, _, t, _ => by rw [show k = 0 by omega]
  | K + 1, h, hK, t, ht => by
    rcases Nat.lt_or_ge k (K + 1) with h1 | h1
    · have ih := sp_low (s := s) (k := k) (K := K) (by omega) (by omega) ht
      have hb := befF_le (f := f) (k := k) (K := K) (by omega) (by omega)
      rw [mem_spL_succ, ← ih]
      refine ⟨fun h => h.resolve_right ?_, Or.inl⟩
      rintro ⟨j, _, e, _⟩
      omega
    · rw [show k = K + 1 by omega]
def lastI (P : Nat → Bool) : Nat → Int
  | 0 => -1
  | i + 1 => if P i = true then i else lastI P i
theorem lastI_some {P : Nat → Bool} : ∀ {n i : Nat}, i < n → P i = true → ∃ j : Nat, j < n ∧ lastI P n = j ∧ P j = true
  | n + 1, i, h, hi => by
    rw [lastI]
    by_cases hn : P n = true
    · exact ⟨n, by omega, by rw [if_pos hn], hn⟩
    · rw [if_neg hn]
      have : i ≠ n := fun e => hn (by rw [← e]; exact hi)
      obtain ⟨j, h1, h2, h3⟩ := lastI_some (P := P) (n := n) (i := i) (by omega) hi
      exact ⟨j, by omega, h2, h3⟩
def pthB (f : FlowP) (s : Nat) (k : Nat) (q : Int) (i : Nat) : Bool := decide ((f.lots.getD k default).inn.getD i 0 ∈ spL f s f.lots.length) && (!(f.lots.getD k default).known || ((f.lots.getD k default).perm.getD i 0 == q))
def onP (f : FlowP) (k : Nat) (q : Int) : Prop := befF f k ≤ q ∧ q < befF f k + ((f.lots.getD k default).inn.length : Int)
instance (f : FlowP) (k : Nat) (q : Int) : Decidable (onP f k q) := inferInstanceAs (Decidable (_ ∧ _))
def inP (f : FlowP) (s : Nat) (k : Nat) (q : Int) : Int := if onP f k q then lastI (pthB f s k (q - befF f k)) (f.lots.getD k default).inn.length else -1
def outP (f : FlowP) (k : Nat) (q : Int) : Int := if onP f k q then q - befF f k else -1
def bakP (f : FlowP) (s : Nat) (k : Nat) (q : Int) : Int := if onP f k q then (f.lots.getD k default).inn.getD (inP f s k q).toNat 0 else q
def spA (f : FlowP) (s : Nat) (e : Int) : Nat → Int
  | 0 => e
  | d + 1 => bakP f s (f.lots.length - 1 - d) (spA f s e d)
def spQ (f : FlowP) (s : Nat) (e : Int) (k : Nat) : Int := spA f s e (f.lots.length - k)
theorem spQ_all (f : FlowP) (s : Nat) (e : Int) : spQ f s e f.lots.length = e := by rw [spQ, Nat.sub_self]; rfl
theorem spQ_at (s : Nat) (e : Int) {k : Nat} (hk : k < f.lots.length) : spQ f s e k = bakP f s k (spQ f s e (k + 1)) := by
  unfold spQ
  rw [show f.lots.length - k = (f.lots.length - (k + 1)) + 1 by omega, spA, show f.lots.length - 1 - (f.lots.length - (k + 1)) = k by omega]
structure InvP (f : FlowP) (s : Nat) (k : Nat) (q : Int) : Prop where
  m : q ∈ spL f s k
  g : q ∉ goneF f k
structure OnW (f : FlowP) (s k : Nat) (q : Int) (i : Nat) : Prop where
  on : onP f k q
  lt : i < (f.lots.getD k default).inn.length
  e : inP f s k q = i
  b : bakP f s k q = (f.lots.getD k default).inn.getD i 0
  p : (f.lots.getD k default).known = true → (f.lots.getD k default).perm.getD i 0 = q - befF f k
theorem back (hc : checkF f = 0) {s : Nat} (hs : (s : Int) < f.senders) {k : Nat} (hk : k < f.lots.length) {q : Int} (h : InvP f s (k + 1) q) :
    InvP f s k (bakP f s k q) ∧ ((∃ i, OnW f s k q i) ∨ (¬ onP f k q ∧ bakP f s k q = q ∧ q ∉ (f.lots.getD k default).inn)) := by
  have hg := goodL_at hc hk
  have hm := h.m
  rw [mem_spL_succ] at hm
  have hgn := h.g
  rw [goneF_succ hk, List.mem_append, not_or] at hgn
  rcases hm with hm | ⟨j, h1, h2, h3⟩
  · have hlt := (spW_set hc hs k (by omega)).2 q hm
    have hon : ¬ onP f k q := fun h => by unfold onP at h; omega
    have hb : bakP f s k q = q := by rw [bakP, if_neg hon]
    rw [hb]
    exact ⟨⟨hm, hgn.1⟩, .inr ⟨hon, rfl, hgn.2⟩⟩
  · have hon : onP f k q := ⟨by omega, by omega⟩
    obtain ⟨i, i1, i2, i3⟩ := canB_iff.1 h3
    have hfr := hg.fr _ (getD_mem i1)
    have hP : pthB f s k (q - befF f k) i = true := by
      unfold pthB
      rw [Bool.and_eq_true, decide_eq_true_eq, sp_low (k := k) (by omega) (Nat.le_refl _) hfr.2.1]
      refine ⟨i2, ?_⟩
      rcases i3 with i3 | i3
      · rw [i3]; rfl
      · rw [i3, show q - befF f k = (j : Int) by omega]; simp
    obtain ⟨n, n1, n2, n3⟩ := lastI_some i1 hP
    have e : inP f s k q = n := by rw [inP, if_pos hon, n2]
    have hb : bakP f s k q = (f.lots.getD k default).inn.getD n 0 := by rw [bakP, if_pos hon, e, Int.toNat_natCast]
    unfold pthB at n3
    rw [Bool.and_eq_true, decide_eq_true_eq] at n3
    have hfr := hg.fr _ (getD_mem n1)
    rw [sp_low (k := k) (by omega) (Nat.le_refl _) hfr.2.1] at n3
    refine ⟨⟨by rw [hb]; exact n3.1, by rw [hb]; exact hfr.2.2⟩, .inl ⟨n, hon, n1, e, hb, fun hkn => ?_⟩⟩
    have := n3.2
    rw [hkn] at this
    simpa using this
theorem invP_end (hc : checkF f = 0) {s : Nat} (hs : (s : Int) < f.senders) {e : Int} (he : e ∈ endS f s) : ∀ d, d ≤ f.lots.length → InvP f s (f.lots.length - d) (spA f s e d)
  | 0, _ => by
    obtain ⟨h1, h2⟩ := mem_endS.1 he
    exact ⟨h2, (mem_endsF.1 h1).2.2⟩
  | d + 1, h => by
    have ih := invP_end hc hs he d (by omega)
    rw [show f.lots.length - d = (f.lots.length - 1 - d) + 1 by omega] at ih
    have := (back hc hs (by omega) ih).1
    rw [show f.lots.length - (d + 1) = f.lots.length - 1 - d by omega]
    exact this
theorem invQ (hc : checkF f = 0) {s : Nat} (hs : (s : Int) < f.senders) {e : Int} (he : e ∈ endS f s) {k : Nat} (hk : k ≤ f.lots.length) : InvP f s k (spQ f s e k) := by
  have := invP_end hc hs he (f.lots.length - k) (by omega)
  rwa [show f.lots.length - (f.lots.length - k) = k by omega] at this
theorem spQ_zero (hc : checkF f = 0) {s : Nat} (hs : (s : Int) < f.senders) {e : Int} (he : e ∈ endS f s) : spQ f s e 0 = s := by
  have := (invQ hc hs he (Nat.zero_le _)).m
  rwa [spL, List.mem_singleton] at this
/-- the path's lists -/
def inQ' (f : FlowP) (s : Nat) (e : Int) (k : Nat) : Int := inP f s k (spQ f s e (k + 1))
def outQ' (f : FlowP) (s : Nat) (e : Int) (k : Nat) : Int := outP f k (spQ f s e (k + 1))
/-- from the i-th on -/
def rvL (g : Nat → Int) (K i : Nat) : List Int := (List.range K).map fun k => if i ≤ k then g k else 0
theorem rvL_len (g : Nat → Int) (K i : Nat) : (rvL g K i).length = K := by simp [rvL]
theorem rvL_all (g : Nat → Int) (K : Nat) : List.replicate K (0 : Int) = rvL g K K := by
  refine List.ext_getElem? fun i => ?_
  unfold rvL
  rw [List.getElem?_map, List.getElem?_replicate]
  by_cases h : i < K
  · rw [if_pos h, List.getElem?_range h, Option.map_some, if_neg (by omega)]
  · rw [if_neg h, List.getElem?_eq_none (by simpa using h)]; rfl
theorem rvL_set (g : Nat → Int) {K k : Nat} (h : k < K) : (rvL g K (k + 1)).set k (g k) = rvL g K k := by
  refine List.ext_getElem? fun i => ?_
  unfold rvL
  by_cases hi : i = k
  · subst hi
    rw [List.getElem?_set_self (by simpa using h), List.getElem?_map, List.getElem?_range h, Option.map_some, if_pos (by omega)]
  · rw [List.getElem?_set_ne (Ne.symm hi), List.getElem?_map, List.getElem?_map]
    by_cases hn : i < K
    · rw [List.getElem?_range hn, Option.map_some, Option.map_some]
      congr 1
      by_cases hk : k ≤ i
      · rw [if_pos hk, if_pos (by omega)]
      · rw [if_neg hk, if_neg (by omega)]
    · rw [List.getElem?_eq_none (by simpa using hn)]; rfl
theorem rvL_get (g : Nat → Int) {K k : Nat} (h : k < K) : (rvL g K 0).getD k 0 = g k := by
  unfold rvL
  rw [List.getD, List.getElem?_map, List.getElem?_range h, Option.map_some, if_pos (by omega)]
  rfl
/-- the first k -/
def fillG (g : Nat → Int) (n k : Nat) : List Int := (List.range n).map fun j : Nat => if j < k then g j else 0
theorem fillG_len (g : Nat → Int) (n k : Nat) : (fillG g n k).length = n := by simp [fillG]
theorem fillG_zero (g : Nat → Int) (n : Nat) : List.replicate n (0 : Int) = fillG g n 0 := by
  refine List.ext_getElem? fun i => ?_
  unfold fillG
  rw [List.getElem?_map, List.getElem?_replicate]
  by_cases h : i < n
  · rw [if_pos h, List.getElem?_range h]; simp
  · rw [if_neg h, List.getElem?_eq_none (by simpa using h)]; rfl
theorem fillG_get (g : Nat → Int) {n k : Nat} (h : k < n) : (fillG g n n).getD k 0 = g k := by
  unfold fillG
  rw [List.getD, List.getElem?_map, List.getElem?_range h, Option.map_some, if_pos h]
  rfl
theorem fillG_succ (g : Nat → Int) (n k : Nat) : (fillG g n k).set k (g k) = fillG g n (k + 1) := by
  refine List.ext_getElem? fun i => ?_
  unfold fillG
  by_cases h : i = k
  · subst h
    by_cases hn : i < n
    · rw [List.getElem?_set_self (by simpa using hn), List.getElem?_map, List.getElem?_range hn]; simp
    · rw [List.getElem?_eq_none (by simpa using hn), List.getElem?_eq_none (by simpa using hn)]
  · rw [List.getElem?_set_ne (Ne.symm h), List.getElem?_map, List.getElem?_map]
    by_cases hn : i < n
    · rw [List.getElem?_range hn]
      simp only [Option.map_some]
      congr 1
      by_cases hk : i < k
      · rw [if_pos hk, if_pos (by omega)]
      · rw [if_neg hk, if_neg (by omega)]
    · rw [List.getElem?_eq_none (by simpa using hn)]; rfl
/-- where the letter can be, as the map goes -/
def CanK (x : LotP) (n : Int) (sp : List Int) (i : Nat) (l : List Int) : Prop := ∀ t, t ∈ l ↔ t ∈ sp ∨ (x.known = true ∧ ∃ i', i' < i ∧ x.inn.getD i' 0 ∈ sp ∧ t = n + x.perm.getD i' 0)
def someS (x : LotP) (sp : List Int) (i : Nat) : Bool := (List.range i).any fun j => decide (x.inn.getD j 0 ∈ sp)
def CanU (x : LotP) (n : Int) (sp : List Int) (j : Nat) (l : List Int) : Prop := ∀ t, t ∈ l ↔ (t ∈ sp ∨ (x.known = true ∧ ∃ i', i' < x.inn.length ∧ x.inn.getD i' 0 ∈ sp ∧ t = n + x.perm.getD i' 0)) ∨ (someS x sp x.inn.length = true ∧ x.known = false ∧ ∃ j' : Nat, j' < j ∧ t = n + j')
theorem someS_succ (x : LotP) (sp : List Int) (i : Nat) : someS x sp (i + 1) = (someS x sp i || decide (x.inn.getD i 0 ∈ sp)) := by
  unfold someS
  rw [List.range_succ, List.any_append]
  simp
theorem canK_zero {x : LotP} {n : Int} {sp l : List Int} (h : ∀ t, t ∈ l ↔ t ∈ sp) : CanK x n sp 0 l := fun t => by
  rw [h]
  exact ⟨Or.inl, fun h => h.resolve_right fun ⟨_, i, hi, _⟩ => by omega⟩
theorem canK_old {x : LotP} {n : Int} {sp l : List Int} {i : Nat} (h : CanK x n sp i l) (hp : x.known = true → ∀ p ∈ x.perm, 0 ≤ p) (hl : x.known = true → x.perm.length = x.inn.length) (hi : i ≤ x.inn.length) {t : Int} (ht : t < n) : t ∈ l ↔ t ∈ sp := by
  rw [h]
  refine ⟨fun h => h.resolve_right ?_, Or.inl⟩
  rintro ⟨hk, i', h1, h2, h3⟩
  have := hp hk _ (getD_mem (show i' < x.perm.length by rw [hl hk]; omega))
  omega
theorem canK_in {x : LotP} {n : Int} {sp l : List Int} {i : Nat} (h : CanK x n sp i l) (hk : x.known = true) (hm : x.inn.getD i 0 ∈ sp) : CanK x n sp (i + 1) (l ++ [n + x.perm.getD i 0]) := fun t => by
  rw [List.mem_append, List.mem_singleton, h]
  constructor
  · rintro ((h | ⟨_, i', h1, h2, h3⟩) | h)
    · exact .inl h
    · exact .inr ⟨hk, i', by omega, h2, h3⟩
    · exact .inr ⟨hk, i, by omega, hm, h⟩
  · rintro (h | ⟨_, i', h1, h2, h3⟩)
    · exact .inl (.inl h)
    · rcases Nat.lt_or_ge i' i with h4 | h4
      · exact .inl (.inr ⟨hk, i', h4, h2, h3⟩)
      · have : i' = i := by omega
        subst this
        exact .inr h3
theorem canK_out {x : LotP} {n : Int} {sp l : List Int} {i : Nat} (h : CanK x n sp i l) (hm : ¬ (x.known = true ∧ x.inn.getD i 0 ∈ sp)) : CanK x n sp (i + 1) l := fun t => by
  rw [h]
  refine or_congr Iff.rfl ⟨fun ⟨h1, i', h2, h3⟩ => ⟨h1, i', by omega, h3⟩, fun ⟨h1, i', h2, h3, h4⟩ => ⟨h1, i', ?_, h3, h4⟩⟩
  rcases Nat.lt_or_ge i' i with h5 | h5
  · exact h5
  · have : i' = i := by omega
    subst this
    exact (hm ⟨h1, h3⟩).elim
theorem canU_zero {x : LotP} {n : Int} {sp l : List Int} (h : CanK x n sp x.inn.length l) : CanU x n sp 0 l := fun t => by
  rw [h]
  exact ⟨Or.inl, fun h => h.resolve_right fun ⟨_, _, j, hj, _⟩ => by omega⟩
theorem canU_in {x : LotP} {n : Int} {sp l : List Int} {j : Nat} (h : CanU x n sp j l) (hs : someS x sp x.inn.length = true) (hk : x.known = false) : CanU x n sp (j + 1) (l ++ [n + (j : Int)]) := fun t => by
  rw [List.mem_append, List.mem_singleton, h]
  constructor
  · rintro ((h | ⟨h1, h2, j', h3, h4⟩) | h)
    · exact .inl h
    · exact .inr ⟨h1, h2, j', by omega, h4⟩
    · exact .inr ⟨hs, hk, j, by omega, h⟩
  · rintro (h | ⟨h1, h2, j', h3, h4⟩)
    · exact .inl (.inl h)
    · rcases Nat.lt_or_ge j' j with h5 | h5
      · exact .inl (.inr ⟨h1, h2, j', h5, h4⟩)
      · have : j' = j := by omega
        subst this
        exact .inr h4
theorem canU_out {x : LotP} {n : Int} {sp l : List Int} {j : Nat} (h : CanU x n sp j l) (hs : ¬ (someS x sp x.inn.length = true ∧ x.known = false)) : CanU x n sp (j + 1) l := fun t => by
  rw [h]
  exact or_congr Iff.rfl ⟨fun ⟨h1, h2, _⟩ => (hs ⟨h1, h2⟩).elim, fun ⟨h1, h2, _⟩ => (hs ⟨h1, h2⟩).elim⟩
theorem canU_all (hc : checkF f = 0) {s k : Nat} (hk : k < f.lots.length) {l : List Int} (h : CanU (f.lots.getD k default) (befF f k) (spL f s k) (f.lots.getD k default).inn.length l) : ∀ t, t ∈ l ↔ t ∈ spL f s (k + 1) := fun t => by
  have hg := goodL_at hc hk
  rw [h, mem_spL_succ, or_assoc]
  refine or_congr Iff.rfl ?_
  have hsome : someS (f.lots.getD k default) (spL f s k) (f.lots.getD k default).inn.length = true ↔ ∃ i, i < (f.lots.getD k default).inn.length ∧ (f.lots.getD k default).inn.getD i 0 ∈ spL f s k := by
    unfold someS
    rw [List.any_eq_true]
    exact ⟨fun ⟨i, h1, h2⟩ => ⟨i, by simpa using h1, by simpa using h2⟩, fun ⟨i, h1, h2⟩ => ⟨i, by simpa using h1, by simpa using h2⟩⟩
  constructor
  · rintro (⟨h1, i, h2, h3, h4⟩ | ⟨h1, h2, j, h3, h4⟩)
    · have hp := hg.pl h1
      have := hp.2.2 _ (getD_mem (show i < (f.lots.getD k default).perm.length by rw [hp.1]; exact h2))
      exact ⟨((f.lots.getD k default).perm.getD i 0).toNat, by omega, by omega, canB_iff.2 ⟨i, h2, h3, .inr (by omega)⟩⟩
    · obtain ⟨i, i1, i2⟩ := hsome.1 h1
      exact ⟨j, h3, h4, canB_iff.2 ⟨i, i1, i2, .inl h2⟩⟩
  · rintro ⟨j, h1, h2, h3⟩
    obtain ⟨i, i1, i2, i3⟩ := canB_iff.1 h3
    cases hkn : (f.lots.getD k default).known with
    | true =>
      rw [hkn] at i3
      exact .inl ⟨rfl, i, i1, i2, by rw [i3.resolve_left (by simp)]; exact h2⟩
    | false => exact .inr ⟨hsome.2 ⟨i, i1, i2⟩, rfl, j, h1, h2⟩
/-- the flow in which this path is taken -/
def swpF (x : LotP) (i o : Int) : LotP := if x.known = true then x else ⟨x.inn, true, if 0 ≤ i then swapL (rngI x.inn.length) i.toNat o.toNat else rngI x.inn.length⟩
def pthL (f : FlowP) (I O : Nat → Int) (k : Nat) : List LotP := (List.range f.lots.length).map fun j => if j < k then swpF (f.lots.getD j default) (I j) (O j) else idL (f.lots.getD j default)
theorem pthL_len (f : FlowP) (I O : Nat → Int) (k : Nat) : (pthL f I O k).length = f.lots.length := by simp [pthL]
theorem pthL_zero (f : FlowP) (I O : Nat → Int) : (idW f).lots = pthL f I O 0 := by
  refine List.ext_getElem? fun i => ?_
  unfold pthL
  show (f.lots.map idL)[i]? = _
  rw [List.getElem?_map, List.getElem?_map]
  by_cases hi : i < f.lots.length
  · rw [List.getElem?_range hi, List.getElem?_eq_getElem hi]
    simp [List.getD, hi]
  · rw [List.getElem?_eq_none (by omega), List.getElem?_eq_none (by simpa using hi)]; rfl
theorem pthL_get {I O : Nat → Int} {k j : Nat} (hj : j < f.lots.length) : (pthL f I O k).getD j default = if j < k then swpF (f.lots.getD j default) (I j) (O j) else idL (f.lots.getD j default) := by
  unfold pthL
  rw [List.getD, List.getElem?_map, List.getElem?_range hj]
  rfl
theorem pthL_set {I O : Nat → Int} {k : Nat} (hk : k < f.lots.length) : (pthL f I O k).set k (swpF (f.lots.getD k default) (I k) (O k)) = pthL f I O (k + 1) := by
  refine List.ext_getElem? fun i => ?_
  unfold pthL
  by_cases hi : i = k
  · subst hi
    rw [List.getElem?_set_self (by simpa using hk), List.getElem?_map, List.getElem?_range hk, Option.map_some, if_pos (by omega)]
  · rw [List.getElem?_set_ne (Ne.symm hi), List.getElem?_map, List.getElem?_map]
    by_cases hn : i < f.lots.length
    · rw [List.getElem?_range hn, Option.map_some, Option.map_some]
      congr 1
      by_cases h : i < k
      · rw [if_pos h, if_pos (by omega)]
      · rw [if_neg h, if_neg (by omega)]
    · rw [List.getElem?_eq_none (by simpa using hn)]; rfl
theorem pthL_skip {I O : Nat → Int} {k : Nat} (hk : k < f.lots.length) (h : swpF (f.lots.getD k default) (I k) (O k) = idL (f.lots.getD k default)) : pthL f I O k = pthL f I O (k + 1) := by
  rw [← pthL_set hk, h]
  refine List.ext_getElem? fun i => ?_
  by_cases hi : i = k
  · subst hi
    rw [List.getElem?_set_self (by rw [pthL_len]; exact hk)]
    have := pthL_get (f := f) (I := I) (O := O) (k := i) hk
    rw [if_neg (by omega)] at this
    rw [← this, List.getD, List.getElem?_eq_getElem (by rw [pthL_len]; exact hk)]
    rfl
  · rw [List.getElem?_set_ne (Ne.symm hi)]
def pthF (f : FlowP) (s : Nat) (e : Int) : FlowP := ⟨f.senders, pthL f (inQ' f s e) (outQ' f s e) f.lots.length⟩
theorem pthF_at {s : Nat} {e : Int} {k : Nat} (hk : k < f.lots.length) : (pthF f s e).lots.getD k default = swpF (f.lots.getD k default) (inQ' f s e k) (outQ' f s e k) := by
  show (pthL f _ _ _).getD k default = _
  rw [pthL_get hk, if_pos hk]
theorem rngI_get {n j : Nat} (h : j < n) : (rngI n).getD j 0 = j := by
  unfold rngI
  rw [List.getD, List.getElem?_map, List.getElem?_range h]; rfl
theorem swapL_at {n i o : Nat} (hi : i < n) (ho : o < n) : (swapL (rngI n) i o).getD i 0 = o := by
  unfold swapL
  have hl := rngI_len n
  by_cases h : o = i
  · subst h
    rw [List.getD, List.getElem?_set_self (by simp [hl, ho]), rngI_get ho]; rfl
  · rw [List.getD, List.getElem?_set_ne h, List.getElem?_set_self (by simp [hl, hi]), rngI_get ho]; rfl
theorem qP (hc : checkF f = 0) {s : Nat} (hs : (s : Int) < f.senders) {e : Int} (he : e ∈ endS f s) {k : Nat} (hk : k < f.lots.length) :
    (∃ i o : Nat, inQ' f s e k = i ∧ outQ' f s e k = o ∧ i < (f.lots.getD k default).inn.length ∧ o < (f.lots.getD k default).inn.length ∧ spQ f s e k = (f.lots.getD k default).inn.getD i 0 ∧ spQ f s e (k + 1) = befF f k + o ∧ ((f.lots.getD k default).known = true → (f.lots.getD k default).perm.getD i 0 = o) ∧ onP f k (spQ f s e (k + 1))) ∨
    (inQ' f s e k = -1 ∧ outQ' f s e k = -1 ∧ spQ f s e k = spQ f s e (k + 1) ∧ spQ f s e k ∉ (f.lots.getD k default).inn ∧ ¬ onP f k (spQ f s e (k + 1))) := by
  have hI := invQ hc hs he (k := k + 1) hk
  have hq := spQ_at (f := f) s e hk
  unfold inQ' outQ'
  generalize hqe : spQ f s e (k + 1) = q at hI hq ⊢
  rcases (back hc hs hk hI).2 with ⟨i, h⟩ | ⟨h1, h2, h3⟩
  · have hon := h.on
    have hp := h.p
    have hb := h.b
    rw [← hq] at hb
    unfold onP at hon
    refine .inl ⟨i, (q - befF f k).toNat, h.e, by rw [outP, if_pos h.on]; omega, h.lt, by omega, hb, by omega, fun hk => by rw [hp hk]; omega, h.on⟩
  · refine .inr ⟨by rw [inP, if_neg h1], by rw [outP, if_neg h1], by rw [hq, h2], by rw [hq, h2]; exact h3, h1⟩
theorem pthF_fin (hc : checkF f = 0) {s : Nat} (hs : (s : Int) < f.senders) {e : Int} (he : e ∈ endS f s) : FinF f (pthF f s e) := by
  refine ⟨rfl, pthL_len _ _ _ _, fun k hk => ?_⟩
  rw [pthF_at hk]
  by_cases h : (f.lots.getD k default).known = true
  · exact .inl (by rw [swpF, if_pos h])
  · refine .inr ⟨by simpa using h, by rw [swpF, if_neg h], by rw [swpF, if_neg h], ?_⟩
    rw [swpF, if_neg h]
    have hr := range_plOK (f.lots.getD k default).inn.length
    have hl := rngI_len (f.lots.getD k default).inn.length
    rcases qP hc hs he hk with ⟨i, o, h1, h2, h3, h4, _⟩ | ⟨h1, h2, _⟩
    · rw [h1, h2, if_pos (by omega), Int.toNat_natCast, Int.toNat_natCast]
      refine ⟨by show (swapL _ _ _).length = _; rw [swapL_len, hl], swapL_nd (l := rngI _) (by omega) (by omega) hr.1, fun p hp => hr.2 p (swapL_mem (l := rngI _) (by omega) (by omega) hp)⟩
    · rw [h1, if_neg (by omega)]
      exact ⟨hl, hr.1, hr.2⟩
theorem pthF_known (f : FlowP) (s : Nat) (e : Int) : knownF (pthF f s e) = true := by
  unfold knownF
  rw [List.all_eq_true]
  intro k hk
  have hlt : k < f.lots.length := by
    have := pthL_len f (inQ' f s e) (outQ' f s e) f.lots.length
    simp [pthF] at hk; omega
  rw [pthF_at hlt, swpF]
  split
  · rename_i h; rw [h]; rfl
  · rfl
theorem pthF_follow (hc : checkF f = 0) {s : Nat} (hs : (s : Int) < f.senders) {e : Int} (he : e ∈ endS f s) : ∀ k, k ≤ f.lots.length → followK (pthF f s e) k s = spQ f s e k
  | 0, _ => by rw [spQ_zero hc hs he]; rfl
  | k + 1, h => by
    have ih := pthF_follow hc hs he k (by omega)
    have hk : k < f.lots.length := by omega
    have hg := goodL_at hc hk
    have hfin := pthF_fin hc hs he
    have hin : ((pthF f s e).lots.getD k default).inn = (f.lots.getD k default).inn := hfin.inn hk
    rw [followK, stepF, ih, hin, hfin.bef (by omega)]
    rcases qP hc hs he hk with ⟨i, o, h1, h2, h3, h4, h5, h6, h7, _⟩ | ⟨_, _, h5, h6, _⟩
    · have hm := getD_mem h3
      rw [if_pos (by rw [h5]; exact hm), h5, idx_at hg.nd h3, h6, pthF_at hk]
      congr 1
      by_cases hkn : (f.lots.getD k default).known = true
      · rw [swpF, if_pos hkn]; exact h7 hkn
      · rw [swpF, if_neg hkn, h1, h2, if_pos (by omega), Int.toNat_natCast, Int.toNat_natCast]
        exact swapL_at h3 h4
    · rw [if_neg h6, h5]
theorem pthF_ends (hc : checkF f = 0) {s : Nat} (hs : (s : Int) < f.senders) {e : Int} (he : e ∈ endS f s) : followK (pthF f s e) (pthF f s e).lots.length s = e := by
  rw [show (pthF f s e).lots.length = f.lots.length from pthL_len _ _ _ _, pthF_follow hc hs he _ (Nat.le_refl _), spQ_all]
theorem shufI_nil (a n : Nat) : ∀ i, i ≤ n → shufI [] a n i = rngI n
  | 0, _ => rfl
  | i + 1, h => by
    have hl := rngI_len n
    rw [shufI, shufI_nil a n i (by omega), show pickN [] (a + i) i n = i by simp [pickN]]
    unfold swapL
    refine List.ext_getElem? fun j => ?_
    by_cases hj : j = i
    · subst hj
      rw [List.getElem?_set_self (by simp [hl]; omega), List.getD, List.getElem?_eq_getElem (by omega)]; rfl
    · rw [List.getElem?_set_ne (Ne.symm hj), List.getElem?_set_ne (Ne.symm hj)]
theorem wayL_nil (a : Nat) (x : LotP) : wayL [] a x = idL x := by
  unfold wayL idL
  rw [shufI_nil _ _ _ (Nat.le_refl _)]
  rfl
theorem wayF_nil (f : FlowP) : wayF f [] = idW f := by
  unfold wayF idW wayA
  congr 1
  refine List.ext_getElem? fun i => ?_
  rw [List.getElem?_map, List.getElem?_map]
  by_cases hi : i < f.lots.length
  · rw [List.getElem?_range hi, List.getElem?_eq_getElem hi, Option.map_some, Option.map_some, wayL_nil]
    simp [List.getD, hi]
  · rw [List.getElem?_eq_none (by simpa using hi), List.getElem?_eq_none (by omega)]; rfl
end
end Go.Proofs.Ytncihbmehbiekaa

