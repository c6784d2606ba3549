import Derived.Test.YtfndjciojljkfaaFB8
import Derived.Test.YtfndjciojljkfaaFB2
namespace Go.Proofs.Ytfndjciojljkfaa
set_option linter.unusedSimpArgs false
set_option linter.unusedVariables false
open Go.RowKit
/-- a map of integers -/
def mI (m : List (Int × Int)) : List (List Int × V) := m.map fun p => ([p.1], V.d (.c (.int .i64 p.2)))
def lkI (t : Int) : List (Int × Int) → Option Int
  | [] => none
  | (u, v) :: l => if t = u then some v else lkI t l
def upI (t v : Int) : List (Int × Int) → List (Int × Int)
  | [] => [(t, v)]
  | (u, w) :: l => if t = u then (t, v) :: l else (u, w) :: upI t v l
def dlI (t : Int) : List (Int × Int) → List (Int × Int)
  | [] => []
  | (u, w) :: l => if t = u then l else (u, w) :: dlI t l
def intV (n : Int) : V := .d (.c (.int .i64 n))
theorem lkM_I (t : Int) : ∀ m, lkM [t] (mI m) = (lkI t m).map intV
  | [] => rfl
  | (u, v) :: l => by
    have ih := lkM_I t l
    unfold mI at ih ⊢
    simp only [List.map_cons, lkM, lkI, List.cons.injEq, and_true]
    split
    · rfl
    · exact ih
theorem upM_I (t v : Int) : ∀ m, upM [t] (.d (.c (.int .i64 v))) (mI m) = mI (upI t v m)
  | [] => rfl
  | (u, w) :: l => by
    have ih := upM_I t v l
    unfold mI at ih ⊢
    simp only [List.map_cons, upM, upI, List.cons.injEq, and_true]
    split
    · rfl
    · simp only [List.map_cons, ih]
theorem dlM_I (t : Int) : ∀ m, dlM [t] (mI m) = mI (dlI t m)
  | [] => rfl
  | (u, w) :: l => by
    have ih := dlM_I t l
    unfold mI at ih ⊢
    simp only [List.map_cons, dlM, dlI, List.cons.injEq, and_true]
    split
    · rfl
    · simp only [List.map_cons, ih]
theorem intV_getD (o : Option Int) (b : Int) : (o.map intV).getD (.d (.c (.int .i64 b))) = .d (.c (.int .i64 (o.getD b))) := by cases o <;> rfl
theorem upI_new {t v : Int} : ∀ {m : List (Int × Int)}, t ∉ m.map (·.1) → upI t v m = m ++ [(t, v)]
  | [], _ => rfl
  | (u, w) :: l, h => by
    simp only [List.map_cons, List.mem_cons, not_or] at h
    rw [upI, if_neg h.1, upI_new h.2, List.cons_append]
theorem dlI_eq {t : Int} : ∀ {m : List (Int × Int)}, (m.map (·.1)).Nodup → dlI t m = m.filter fun p => !decide (p.1 = t)
  | [], _ => rfl
  | (u, w) :: l, h => by
    simp only [List.map_cons, List.nodup_cons] at h
    rw [dlI]
    by_cases e : t = u
    · rw [if_pos e, List.filter_cons, if_neg (by simp [e])]
      refine (List.filter_eq_self.2 fun p hp => ?_).symm
      have : p.1 ≠ t := fun e' => h.1 (by rw [← e, ← e']; exact List.mem_map_of_mem hp)
      simpa using this
    · rw [if_neg e, List.filter_cons, if_pos (by simp; exact fun e' => e e'.symm), dlI_eq h.2]
/-- the letters' places: a map from places to senders -/
structure OfInv (S : Nat) (g : Nat → Int) (m : List (Int × Int)) : Prop where
  nd : (m.map (·.1)).Nodup
  mem : ∀ t v, (t, v) ∈ m ↔ ∃ s : Nat, s < S ∧ v = s ∧ g s = t
theorem lkI_mem {t v : Int} : ∀ {m : List (Int × Int)}, (m.map (·.1)).Nodup → (t, v) ∈ m → lkI t m = some v
  | (u, w) :: l, h, hm => by
    simp only [List.map_cons, List.nodup_cons] at h
    rw [lkI]
    rcases List.mem_cons.1 hm with e | hm
    · cases e; rw [if_pos rfl]
    · have : t ≠ u := fun e => h.1 (by rw [← e]; exact List.mem_map.2 ⟨_, hm, rfl⟩)
      rw [if_neg this]; exact lkI_mem h.2 hm
theorem OfInv.lk {S : Nat} {g : Nat → Int} {m : List (Int × Int)} (h : OfInv S g m) {s : Nat} (hs : s < S) : lkI (g s) m = some (s : Int) := lkI_mem h.nd ((h.mem _ _).2 ⟨s, hs, rfl, rfl⟩)
theorem OfInv.move {S : Nat} {g : Nat → Int} {m : List (Int × Int)} (h : OfInv S g m) {s0 : Nat} {t t' : Int} (hs : s0 < S) (hg : g s0 = t) (hu : ∀ s, s < S → g s = t → s = s0) (hf : ∀ s, s < S → g s ≠ t') :
    OfInv S (fun s => if g s = t then t' else g s) (dlI t (upI t' s0 m)) := by
  have hk : t' ∉ m.map (·.1) := fun hm => by
    obtain ⟨⟨u, v⟩, hp, e⟩ := List.mem_map.1 hm
    obtain ⟨s, h1, _, h3⟩ := (h.mem u v).1 hp
    exact hf s h1 (h3.trans e)
  have htt : t' ≠ t := fun e => hf s0 hs (hg.trans e.symm)
  have hnd : ((m ++ [(t', (s0 : Int))]).map (·.1)).Nodup := by
    rw [List.map_append, List.nodup_append]
    exact ⟨h.nd, by simp, fun a ha b hb e => hk (by simp at hb; rw [← hb, ← e]; exact ha)⟩
  rw [upI_new hk, dlI_eq hnd]
  refine ⟨hnd.sublist ((List.filter_sublist).map _), fun u v => ?_⟩
  rw [List.mem_filter, List.mem_append, h.mem]
  simp only [List.mem_singleton, Prod.mk.injEq, Bool.not_eq_true', decide_eq_false_iff_not]
  constructor
  · rintro ⟨⟨s, h1, h2, h3⟩ | ⟨h1, h2⟩, h4⟩
    · exact ⟨s, h1, h2, by rw [if_neg (by rw [h3]; exact h4)]; exact h3⟩
    · exact ⟨s0, hs, h2, by rw [if_pos hg, h1]⟩
  · rintro ⟨s, h1, h2, h3⟩
    by_cases e : g s = t
    · rw [if_pos e] at h3
      have := hu s h1 e
      subst this
      exact ⟨.inr ⟨h3.symm, h2⟩, by rw [← h3]; exact htt⟩
    · rw [if_neg e] at h3
      exact ⟨.inl ⟨s, h1, h2, h3⟩, by rw [← h3]; exact e⟩
theorem OfInv.congr {S : Nat} {g g' : Nat → Int} {m : List (Int × Int)} (h : OfInv S g m) (he : ∀ s, s < S → g s = g' s) : OfInv S g' m :=
  ⟨h.nd, fun t v => (h.mem t v).trans ⟨fun ⟨s, h1, h2, h3⟩ => ⟨s, h1, h2, (he s h1).symm.trans h3⟩, fun ⟨s, h1, h2, h3⟩ => ⟨s, h1, h2, (he s h1).trans h3⟩⟩⟩
def mId (i : Nat) : List (Int × Int) := (List.range i).map fun n : Nat => ((n : Int), (n : Int))
theorem mId_keys (i : Nat) : (mId i).map (·.1) = (List.range i).map fun n : Nat => (n : Int) := by simp [mId, Function.comp_def]
theorem mId_nd (i : Nat) : ((mId i).map (·.1)).Nodup := by
  rw [mId_keys]
  refine List.pairwise_map.2 (List.Pairwise.imp (fun {a b} h e => h (by omega)) (List.nodup_range (n := i)))
theorem mId_succ (i : Nat) : upI i i (mId i) = mId (i + 1) := by
  rw [upI_new (by rw [mId_keys]; simp; intro x hx; omega)]
  simp [mId, List.range_succ]
theorem mId_inv (S : Nat) : OfInv S (fun s => (s : Int)) (mId S) := ⟨mId_nd S, fun t v => by
  unfold mId
  simp only [List.mem_map, List.mem_range, Prod.mk.injEq]
  exact ⟨fun ⟨a, h1, h2, h3⟩ => ⟨a, h1, h3.symm, h2⟩, fun ⟨a, h1, h2, h3⟩ => ⟨a, h1, h3, h2.symm⟩⟩⟩
/-- elements that differ, all below their number: all numbers are among them -/
theorem perm_onto {l : List Int} (h1 : l.Nodup) (h2 : ∀ i ∈ l, 0 ≤ i ∧ i < (l.length : Int)) {i : Int} (h3 : 0 ≤ i) (h4 : i < (l.length : Int)) : i ∈ l := by
  apply Classical.byContradiction
  intro hi
  have hn : (i :: l).Nodup := List.nodup_cons.2 ⟨hi, h1⟩
  have hs : (i :: l) ⊆ (List.range l.length).map fun n : Nat => (n : Int) := fun x hx => by
    have : 0 ≤ x ∧ x < (l.length : Int) := by
      rcases List.mem_cons.1 hx with rfl | hx
      · exact ⟨h3, h4⟩
      · exact h2 x hx
    exact List.mem_map.2 ⟨x.toNat, List.mem_range.2 (by omega), by omega⟩
  have := hn.length_le_of_subset hs
  simp at this
  omega
section
variable {f : FlowP}
theorem gone_lt (hc : checkF f = 0) : ∀ {k : Nat}, k ≤ f.lots.length → ∀ t ∈ goneF f k, 0 ≤ t ∧ t < befF f k
  | 0, _, t, ht => by simp [goneF] at ht
  | k + 1, hk, t, ht => by
    rw [goneF_succ (by omega)] at ht
    rw [befF_succ (by omega)]
    have hg := goodL_at hc (show k < f.lots.length by omega)
    rcases List.mem_append.1 ht with ht | ht
    · have := gone_lt hc (k := k) (by omega) t ht; omega
    · have := hg.fr t ht; omega
theorem idx_get {l : List Int} {u : Int} (h : u ∈ l) : l.idxOf u < l.length ∧ l.getD (l.idxOf u) 0 = u := by
  have := List.idxOf_lt_length_iff.2 h
  refine ⟨this, ?_⟩
  rw [List.getD, List.getElem?_eq_getElem this]
  simp
theorem getD_inj {l : List Int} (hn : l.Nodup) {i j : Nat} (hi : i < l.length) (hj : j < l.length) (h : l.getD i 0 = l.getD j 0) : i = j := by
  simp only [List.getD, List.getElem?_eq_getElem hi, List.getElem?_eq_getElem hj, Option.getD_some] at h
  exact (List.getElem_inj hn).1 h
theorem follow_in (hc : checkF f = 0) (hk : knownF f = true) (s : Nat) (hs : (s : Int) < f.senders) : ∀ {k : Nat}, k ≤ f.lots.length → 0 ≤ followK f k s ∧ followK f k s < befF f k ∧ followK f k s ∉ goneF f k
  | 0, _ => ⟨by simp [followK], by simpa [followK, befF] using hs, by simp [goneF]⟩
  | k + 1, hkl => by
    obtain ⟨h1, h2, h3⟩ := follow_in hc hk s hs (k := k) (by omega)
    have hlt : k < f.lots.length := by omega
    have hg := goodL_at hc hlt
    have hpl := hg.pl (knownF_at hk hlt)
    rw [followK, stepF, befF_succ hlt, goneF_succ hlt]
    split
    · rename_i hm
      obtain ⟨i1, _⟩ := idx_get hm
      have hp := hpl.2.2 _ (getD_mem (show List.idxOf (followK f k s) (f.lots.getD k default).inn < (f.lots.getD k default).perm.length by rw [hpl.1]; exact i1))
      have hb0 : 0 ≤ befF f k := by omega
      refine ⟨by omega, by have := hpl.1; omega, fun hm2 => ?_⟩
      rcases List.mem_append.1 hm2 with h | h
      · have := gone_lt hc (k := k) (by omega) _ h; omega
      · have := hg.fr _ h; omega
    · rename_i hm
      exact ⟨h1, by omega, fun hm2 => (List.mem_append.1 hm2).elim h3 hm⟩
theorem follow_inj (hc : checkF f = 0) (hk : knownF f = true) {s s' : Nat} (hs : (s : Int) < f.senders) (hs' : (s' : Int) < f.senders) : ∀ {k : Nat}, k ≤ f.lots.length → followK f k s = followK f k s' → s = s'
  | 0, _, h => by simp only [followK] at h; omega
  | k + 1, hkl, h => by
    have hlt : k < f.lots.length := by omega
    obtain ⟨h1, h2, h3⟩ := follow_in hc hk s hs (k := k) (by omega)
    obtain ⟨h1', h2', h3'⟩ := follow_in hc hk s' hs' (k := k) (by omega)
    have hg := goodL_at hc hlt
    have hpl := hg.pl (knownF_at hk hlt)
    refine follow_inj hc hk hs hs' (k := k) (by omega) ?_
    rw [followK, followK, stepF, stepF] at h
    have bd : ∀ {u : Int}, u ∈ (f.lots.getD k default).inn → 0 ≤ (f.lots.getD k default).perm.getD ((f.lots.getD k default).inn.idxOf u) 0 := fun hm => by
      obtain ⟨i1, _⟩ := idx_get hm
      exact (hpl.2.2 _ (getD_mem (by rw [hpl.1]; exact i1))).1
    split at h <;> split at h
    · rename_i m1 m2
      obtain ⟨i1, i2⟩ := idx_get m1
      obtain ⟨j1, j2⟩ := idx_get m2
      have := getD_inj hpl.2.1 (by rw [hpl.1]; exact i1) (by rw [hpl.1]; exact j1) (by omega : (f.lots.getD k default).perm.getD _ 0 = (f.lots.getD k default).perm.getD _ 0)
      rw [← i2, ← j2, this]
    · rename_i m1 _; have := bd m1; omega
    · rename_i _ m2; have := bd m2; omega
    · exact h
theorem follow_onto (hc : checkF f = 0) (hk : knownF f = true) : ∀ {k : Nat}, k ≤ f.lots.length → ∀ t, 0 ≤ t → t < befF f k → t ∉ goneF f k → ∃ s : Nat, (s : Int) < f.senders ∧ followK f k s = t
  | 0, _, t, h1, h2, _ => ⟨t.toNat, by simp [befF] at h2; omega, by simp only [followK]; omega⟩
  | k + 1, hkl, t, h1, h2, h3 => by
    have hlt : k < f.lots.length := by omega
    rw [befF_succ hlt] at h2
    rw [goneF_succ hlt, List.mem_append, not_or] at h3
    have hg := goodL_at hc hlt
    have hpl := hg.pl (knownF_at hk hlt)
    by_cases hb : t < befF f k
    · obtain ⟨s, hs, e⟩ := follow_onto hc hk (k := k) (by omega) t h1 hb h3.1
      exact ⟨s, hs, by rw [followK, stepF, e, if_neg h3.2]⟩
    · have hm := perm_onto hpl.2.1 (fun i hi => by have := hpl.2.2 i hi; rw [hpl.1]; exact this) (i := t - befF f k) (by omega) (by rw [hpl.1]; omega)
      obtain ⟨i1, i2⟩ := idx_get hm
      rw [hpl.1] at i1
      have hfr := hg.fr _ (getD_mem i1)
      obtain ⟨s, hs, e⟩ := follow_onto hc hk (k := k) (by omega) _ hfr.1 hfr.2.1 hfr.2.2
      refine ⟨s, hs, ?_⟩
      have hix : (f.lots.getD k default).inn.idxOf ((f.lots.getD k default).inn.getD ((f.lots.getD k default).perm.idxOf (t - befF f k)) 0) = (f.lots.getD k default).perm.idxOf (t - befF f k) := by
        obtain ⟨j1, j2⟩ := idx_get (getD_mem i1)
        exact getD_inj hg.nd j1 i1 j2
      rw [followK, stepF, e, if_pos (getD_mem i1), hix, i2]
      omega
/-- a letter's place when the first j letters of the lot k have moved -/
def posJ (f : FlowP) (k j s : Nat) : Int := if followK f k s ∈ (f.lots.getD k default).inn.take j then befF f k + (f.lots.getD k default).perm.getD ((f.lots.getD k default).inn.idxOf (followK f k s)) 0 else followK f k s
theorem posJ_zero (k s : Nat) : posJ f k 0 s = followK f k s := by simp [posJ]
theorem posJ_all (k s : Nat) : posJ f k (f.lots.getD k default).inn.length s = followK f (k + 1) s := by rw [posJ, List.take_length]; rfl
theorem posJ_step (hc : checkF f = 0) (hk : knownF f = true) {S k j : Nat} (hS : f.senders = S) (hlt : k < f.lots.length) (hj : j < (f.lots.getD k default).inn.length) {m : List (Int × Int)} (h : OfInv S (posJ f k j) m) :
    ∃ s0 : Nat, s0 < S ∧ lkI ((f.lots.getD k default).inn.getD j 0) m = some (s0 : Int) ∧ OfInv S (posJ f k (j + 1)) (dlI ((f.lots.getD k default).inn.getD j 0) (upI (befF f k + (f.lots.getD k default).perm.getD j 0) s0 m)) := by
  have hg := goodL_at hc hlt
  have hpl := hg.pl (knownF_at hk hlt)
  have hfr := hg.fr _ (getD_mem hj)
  obtain ⟨s0, hs0, e0⟩ := follow_onto hc hk (k := k) (by omega) _ hfr.1 hfr.2.1 hfr.2.2
  have hnt : (f.lots.getD k default).inn.getD j 0 ∉ (f.lots.getD k default).inn.take j := ((nodup_take hj).1 (hg.nd.sublist (List.take_sublist _ _))).2
  have sub : ∀ {u : Int}, u ∈ (f.lots.getD k default).inn.take j → u ∈ (f.lots.getD k default).inn := fun hm => List.mem_of_mem_take hm
  have low : ∀ {u : Int}, u ∈ (f.lots.getD k default).inn → 0 ≤ (f.lots.getD k default).perm.getD ((f.lots.getD k default).inn.idxOf u) 0 := fun hm => by
    obtain ⟨i1, _⟩ := idx_get hm
    exact (hpl.2.2 _ (getD_mem (by rw [hpl.1]; exact i1))).1
  have iff : ∀ s, posJ f k j s = (f.lots.getD k default).inn.getD j 0 ↔ followK f k s = (f.lots.getD k default).inn.getD j 0 := fun s => by
    unfold posJ
    split
    · rename_i hm
      have := low (sub hm)
      exact ⟨fun h => by omega, fun h => (hnt (by rw [← h]; exact hm)).elim⟩
    · exact Iff.rfl
  have hS0 : s0 < S := by omega
  refine ⟨s0, hS0, ?_, ?_⟩
  · have := h.lk hS0
    rwa [(iff s0).2 e0] at this
  · refine (h.move hS0 ((iff s0).2 e0) (fun s hs e => ?_) (fun s hs => ?_)).congr fun s hs => ?_
    · exact follow_inj hc hk (by omega) (by omega) (k := k) (by omega) (((iff s).1 e).trans e0.symm)
    · have hin := follow_in hc hk s (by omega) (k := k) (by omega)
      have hpj := (hpl.2.2 _ (getD_mem (show j < (f.lots.getD k default).perm.length by rw [hpl.1]; exact hj))).1
      unfold posJ
      split
      · rename_i hm
        intro e
        obtain ⟨i1, i2⟩ := idx_get (sub hm)
        have := getD_inj hpl.2.1 (by rw [hpl.1]; exact i1) (by rw [hpl.1]; exact hj) (by omega : (f.lots.getD k default).perm.getD _ 0 = (f.lots.getD k default).perm.getD _ 0)
        rw [this] at i2
        rw [← i2] at hm
        exact hnt hm
      · omega
    · have hst := stepF_take (x := f.lots.getD k default) (bef := befF f k) (s := followK f k s) hg.nd hj
      show _ = posJ f k (j + 1) s
      rw [show posJ f k (j + 1) s = _ from hst]
      by_cases e : followK f k s = (f.lots.getD k default).inn.getD j 0
      · rw [if_pos ((iff s).2 e), if_pos e.symm]
      · rw [if_neg (fun h => e ((iff s).1 h)), if_neg (fun h => e h.symm)]
        rfl
end
end Go.Proofs.Ytfndjciojljkfaa

