import Derived.Test.YtncihbmehbiekaaRB6
import Derived.Test.YtncihbmehbiekaaRB2
namespace Go.Proofs.Ytncihbmehbiekaa
set_option linter.unusedSimpArgs false
set_option linter.unusedVariables false
open Go.RowKit
/-- a map of integers -/
def mI (m : List (Int × Int)) : List (List Int × V) := m.map fun p => ([p.1], V.d (.c (.int .i64 p.2)))
def lkI (t : Int) : List (Int × Int) → Option Int
  | [] => none
  | (u, v) :: l => if t = u then some v else lkI t l
def upI (t v : Int) : List (Int × Int) → List (Int × Int)
  | [] => [(t, v)]
  | (u, w) :: l => if t = u then (t, v) :: l else (u, w) :: upI t v l
def dlI (t : Int) : List (Int × Int) → List (Int × Int)
  | [] => []
  | (u, w) :: l => if t = u then l else (u, w) :: dlI t l
def intV (n : Int) : V := .d (.c (.int .i64 n))
theorem lkM_I (t : Int) : ∀ m, lkM [t] (mI m) = (lkI t m).map intV
  | [] => rfl
  | (u, v) :: l => by
    have ih := lkM_I t l
    unfold mI at ih ⊢
    simp only [List.map_cons, lkM, lkI, List.cons.injEq, and_true]
    split
    · rfl
    · exact ih
theorem upM_I (t v : Int) : ∀ m, upM [t] (.d (.c (.int .i64 v))) (mI m) = mI (upI t v m)
  | [] => rfl
  | (u, w) :: l => by
    have ih := upM_I t v l
    unfold mI at ih ⊢
    simp only [List.map_cons, upM, upI, List.cons.injEq, and_true]
    split
    · rfl
    · simp only [List.map_cons, ih]
theorem dlM_I (t : Int) : ∀ m, dlM [t] (mI m) = mI (dlI t m)
  | [] => rfl
  | (u, w) :: l => by
    have ih := dlM_I t l
    unfold mI at ih ⊢
    simp only [List.map_cons, dlM, dlI, List.cons.injEq, and_true]
    split
    · rfl
    · simp only [List.map_cons, ih]
theorem intV_getD (o : Option Int) (b : Int) : (o.map intV).getD (.d (.c (.int .i64 b))) = .d (.c (.int .i64 (o.getD b))) := by cases o <;> rfl
theorem upI_new {t v : Int} : ∀ {m : List (Int × Int)}, t ∉ m.map (·.1) → upI t v m = m ++ [(t, v)]
  | [], _ => rfl
  | (u, w) :: l, h => by
    simp only [List.map_cons, List.mem_cons, not_or] at h
    rw [upI, if_neg h.1, upI_new h.2, List.cons_append]
theorem dlI_eq {t : Int} : ∀ {m : List (Int × Int)}, (m.map (·.1)).Nodup → dlI t m = m.filter fun p => !decide (p.1 = t)
  | [], _ => rfl
  | (u, w) :: l, h => by
    simp only [List.map_cons, List.nodup_cons] at h
    rw [dlI]
    by_cases e : t = u
    · rw [if_pos e, List.filter_cons, if_neg (by simp [e])]
      refine (List.filter_eq_self.2 fun p hp => ?_).symm
      have : p.1 ≠ t := fun e' => h.1 (by rw [← e, ← e']; exact List.mem_map_of_mem hp)
      simpa using this
    · rw [if_neg e, List.filter_cons, if_pos (by simp; exact fun e' => e e'.symm), dlI_eq h.2]
/-- the letters' places: a map from places to senders -/
structure OfInv (S : Nat) (g : Nat → Int) (m : List (Int × Int)) : Prop where
  nd : (m.map (·.1)).Nodup
  mem : ∀ t v, (t, v) ∈ m ↔ ∃ s : Nat, s < S ∧ v = s ∧ g s = t
theorem lkI_mem {t v : Int} : ∀ {m : List (Int × Int)}, (m.map (·.1)).Nodup → (t, v) ∈ m → lkI t m = some v
  | (u, w) :: l, h, hm => by
    simp only [List.map_cons, List.nodup_cons] at h
    rw [lkI]
    rcases List.mem_cons.1 hm with e | hm
    · cases e; rw [if_pos rfl]
    · have : t ≠ u := fun e => h.1 (by rw [← e]; exact List.mem_map.2 ⟨_, hm, rfl⟩)
      rw [if_neg this]; exact lkI_mem h.2 hm
theorem OfInv.lk {S : Nat} {g : Nat → Int} {m : List (Int × Int)} (h : OfInv S g m) {s : Nat} (hs : s < S) : lkI (g s) m = some (s : Int) := lkI_mem h.nd ((h.mem _ _).2 ⟨s, hs, rfl, rfl⟩)
theorem OfInv.move {S : Nat} {g : Nat → Int} {m : List (Int × Int)} (h : OfInv S g m) {s0 : Nat} {t t' : Int} (hs : s0 < S) (hg : g s0 = t) (hu : ∀ s, s < S → g s = t → s = s0) (hf : ∀ s, s < S → g s ≠ t') :
    OfInv S (fun s => if g s = t then t' else g s) (dlI t (upI t' s0 m)) := by
  have hk : t' ∉ m.map (·.1) := fun hm => by
    obtain ⟨⟨u, v⟩, hp, e⟩ := List.mem_map.1 hm
    obtain ⟨s, h1, _, h3⟩ := (h.mem u v).1 hp
    exact hf s h1 (h3.trans e)
  have htt : t' ≠ t := fun e => hf s0 hs (hg.trans e.symm)
  have hnd : ((m ++ [(t', (s0 : Int))]).map (·.1)).Nodup := by
    rw [List.map_append, List.nodup_append]
    exact ⟨h.nd, by simp, fun a ha b hb e => hk (by simp at hb; rw [← hb, ← e]; exact ha)⟩
  rw [upI_new hk, dlI_eq hnd]
  refine ⟨hnd.sublist ((List.filter_sublist).map _), fun u v => ?_⟩
  rw [List.mem_filter, List.mem_append, h.mem]
  simp only [List.mem_singleton, Prod.mk.injEq, Bool.not_eq_true', decide_eq_false_iff_not]
  constructor
  · rintro ⟨⟨s, h1, h2, h3⟩ | ⟨h1, h2⟩, h4⟩
    · exact ⟨s, h1, h2, by rw [if_neg (by rw [h3]; exact h4)]; exact h3⟩
    · exact ⟨s0, hs, h2, by rw [if_pos hg, h1]⟩
  · rintro ⟨s, h1, h2, h3⟩
    by_cases e : g s = t
    · rw [if_pos e] at h3
      have := hu s h1 e
      subst this
      exact ⟨.inr ⟨h3.symm, h2⟩, by rw [← h3]; exact htt⟩
    · rw [if_neg e] at h3
      exact ⟨.inl ⟨s, h1, h2, h3⟩, by rw [← h3]; exact e⟩
theorem OfInv.congr {S : Nat} {g g' : Nat → Int} {m : List (Int × Int)} (h : OfInv S g m) (he : ∀ s, s < S → g s = g' s) : OfInv S g' m :=
  ⟨h.nd, fun t v => (h.mem t v).trans ⟨fun ⟨s, h1, h2, h3⟩ => ⟨s, h1, h2, (he s h1).symm.trans h3⟩, fun ⟨s, h1, h2, h3⟩ => ⟨s, h1, h2, (he s h1).trans h3⟩⟩⟩
def mId (i : Nat) : List (Int × Int) := (List.range i).map fun n : Nat => ((n : Int), (n : Int))
theorem mId_keys (i : Nat) : (mId i).map (·.1) = (List.range i).map fun n : Nat => (n : Int) := by simp [mId, Function.comp_def]
theorem mId_nd (i : Nat) : ((mId i).map (·.1)).Nodup := by
  rw [mId_keys]
  refine List.pairwise_map.2 (List.Pairwise.imp (fun {a b} h e => h (by omega)) (List.nodup_range (n := i)))
theorem mId_succ (i : Nat) : upI i i (mId i) = mId (i + 1) := by
  rw [upI_new (by rw [mId_keys]; simp; intro x hx; omega)]
  simp [mId, List.range_succ]
theorem mId_inv (S : Nat) : OfInv S (fun s => (s : Int)) (mId S) := ⟨mId_nd S, fun t v => by
  unfold mId
  simp only [List.mem_map, List.mem_range, Prod.mk.injEq]
  exact ⟨fun ⟨a, h1, h2, h3⟩ => ⟨a, h1, h3.symm, h2⟩, fun ⟨a, h1, h2, h3⟩ => ⟨a, h1, h3, h2.symm⟩⟩⟩
/-- elements that differ, all below their number: all numbers are among them -/
theorem perm_onto {l : List Int} (h1 : l.Nodup) (h2 : ∀ i ∈ l, 0 ≤ i ∧ i < (l.length : Int)) {i : Int} (h3 : 0 ≤ i) (h4 : i < (l.length : Int)) : i ∈ l := by
  apply Classical.byContradiction
  intro hi
  have hn : (i :: l).Nodup := List.nodup_cons.2 ⟨hi, h1⟩
  have hs : (i :: l) ⊆ (List.range l.length).map fun n : Nat => (n : Int) := fun x hx => by
    have : 0 ≤ x ∧ x < (l.length : Int) := by
      rcases List.mem_cons.1 hx with rfl | hx
      · exact ⟨h3, h4⟩
      · exact h2 x hx
    exact List.mem_map.2 ⟨x.toNat, List.mem_range.2 (by omega), by omega⟩
  have := hn.length_le_of_subset hs
  simp at this
  omega
section
variable {f : FlowP}
theorem gone_lt (hc : checkF f = 0) : ∀ {k : Nat}, k ≤ f.lots.length → ∀ t ∈ goneF f k, 0 ≤ t ∧ t < befF f k
  | 0, _, t, ht => by simp [goneF] at ht
  | k + 1, hk, t, ht => by
    rw [goneF_succ (by omega)] at ht
    rw [befF_succ (by omega)]
    have hg := goodL_at hc (show k < f.lots.length by omega)
    rcases List.mem_append.1 ht with ht | ht
    · have := gone_lt hc (k := k) (by omega) t ht; omega
    · have := hg.fr t ht; omega
theorem idx_get {l : List Int} {u : Int} (h : u ∈ l) : l.idxOf u < l.length ∧ l.getD (l.idxOf u) 0 = u := by
  have := List.idxOf_lt_length_iff.2 h
  refine ⟨this, ?_⟩
  rw [List.getD, List.getElem?_eq_getElem this]
  simp
theorem getD_inj {l : List Int} (hn : l.Nodup) {i j : Nat} (hi : i < l.length) (hj : j < l.length) (h : l.getD i 0 = l.getD j 0) : i = j := by
  simp only [List.getD, List.getElem?_eq_getElem hi, List.getElem?_eq_getElem hj, Option.getD_some] at h
  exact (List.getElem_inj hn).1 h
theorem follow_in (hc : checkF f = 0) (hk : knownF f = true) (s : Nat) (hs : (s : Int) < f.senders) : ∀ {k : Nat}, k ≤ f.lots.length → 0 ≤ followK f k s ∧ followK f k s < befF f k ∧ followK f k s ∉ goneF f k
  | 0, _ => ⟨by simp [followK], by simpa [followK, befF] using hs, by simp [goneF]⟩
  | k + 1, hkl => by
    obtain ⟨h1, h2, h3⟩ := follow_in hc hk s hs (k := k) (by omega)
    have hlt : k < f.lots.length := by omega
    have hg := goodL_at hc hlt
    have hpl := hg.pl (knownF_at hk hlt)
    rw [followK, stepF, befF_succ hlt, goneF_succ hlt]
    split
    · rename_i hm
      obtain ⟨i1, _⟩ := idx_get hm
      have hp := hpl.2.2 _ (getD_mem (show List.idxOf (followK f k s) (f.lots.getD k default).inn < (f.lots.getD k default).perm.length by rw [hpl.1]; exact i1))
      have hb0 : 0 ≤ befF f k := by omega
      refine ⟨by omega, by have := hpl.1; omega, fun hm2 => ?_⟩
      rcases List.mem_append.1 hm2 with h | h
      · have := gone_lt hc (k := k) (by omega) _ h; omega
      · have := hg.fr _ h; omega
    · rename_i hm
      exact ⟨h1, by omega, fun hm2 => (List.mem_append.1 hm2).elim h3 hm⟩
theorem follow_inj (hc : checkF f = 0) (hk : knownF f = true) {s s' : Nat} (hs : (s : Int) < f.senders) (hs' : (s' : Int) < f.senders) : ∀ {k : Nat}, k ≤ f.lots.length → followK f k s = followK f k s' → s = s'
  | 0, _, h => by simp only [followK] at h; omega
  | k + 1, hkl, h => by
    have hlt : k < f.lots.length := by omega
    obtain ⟨h1, h2, h3⟩ := follow_in hc hk s hs (k := k) (by omega)
    obtain ⟨h1', h2', h3'⟩ := follow_in hc hk s' hs' (k := k) (by omega)
    have hg := goodL_at hc hlt
    have hpl := hg.pl (knownF_at hk hlt)
    refine follow_inj hc hk hs hs' (k := k) (by omega) ?_
    rw [followK, followK, stepF, stepF] at h
    have bd : ∀ {u : Int}, u ∈ (f.lots.getD k default).inn → 0 ≤ (f.lots.getD k default).perm.getD ((f.lots.getD k default).inn.idxOf u) 0 := fun hm => by
      obtain ⟨i1, _⟩ := idx_get hm
      exact (hpl.2.2 _ (getD_mem (by rw [hpl.1]; exact i1))).1
    split at h <;> split at h
    · rename_i m1 m2
      obtain ⟨i1, i2⟩ := idx_get m1
      obtain ⟨j1, j2⟩ := idx_get m2
      have := getD_inj hpl.2.1 (by rw [hpl.1]; exact i1) (by rw [hpl.1]; exact j1) (by omega : (f.lots.getD k default).perm.getD _ 0 = (f.lots.getD k default).perm.getD _ 0)
      rw [← i2, ← j2, this]
    · rename_i m1 _; have := bd m1; omega
    · rename_i _ m2; have := bd m2; omega
    · exact h
theorem follow_onto (hc : checkF f = 0) (hk : knownF f = true) : ∀ {k : Nat}, k ≤ f.lots.length → ∀ t, 0 ≤ t → t < befF f k → t ∉ goneF f k → ∃ s : Nat, (s : Int) < f.senders ∧ followK f k s = t
  | 0, _, t, h1, h2, _ => ⟨t.toNat, by simp [befF] at h2; omega, by simp only [followK]; omega⟩
  | k + 1, hkl, t, h1, h2, h3 => by
    have hlt : k < f.lots.length := by omega
    rw [befF_succ hlt] at h2
    rw [goneF_succ hlt, List.mem_append, not_or] at h3
    have hg := goodL_at hc hlt
    have hpl := hg.pl (knownF_at hk hlt)
    by_cases hb : t < befF f k
    · obtain ⟨s, hs, e⟩ := follow_onto hc hk (k := k) (by omega) t h1 hb h3.1
      exact ⟨s, hs, by rw [followK, stepF, e, if_neg h3.2]⟩
    · have hm := perm_onto hpl.2.1 (fun i hi => by have := hpl.2.2 i hi; rw [hpl.1]; exact this) (i := t - befF f k) (by omega) (by rw [hpl.1]; omega)
      obtain ⟨i1, i2⟩ := idx_get hm
      rw [hpl.1] at i1
      have hfr := hg.fr _ (getD_mem i1)
      obtain ⟨s, hs, e⟩ := follow_onto hc hk (k := k) (by omega) _ hfr.1 hfr.2.1 hfr.2.2
      refine ⟨s, hs, ?_⟩
      have hix : (f.lots.getD k default).inn.idxOf ((f.lots.getD k default).inn.getD ((f.lots.getD k default).perm.idxOf (t - befF f k)) 0) = (f.lots.getD k default).perm.idxOf (t - befF f k) := by
        obtain ⟨j1, j2⟩ := idx_get (getD_mem i1)
        exact getD_inj hg.nd j1 i1 j2
      rw [followK, stepF, e, if_pos (getD_mem i1), hix, i2]
      omega
/-- a letter's place when the first j letters of the lot k have moved -/
def posJ (f : FlowP) (k j s : Nat) : Int := if followK f k s ∈ (f.lots.getD k default).inn.take j then befF f k + (f.lots.getD k default).perm.getD ((f.lots.getD k default).inn.idxOf (followK f k s)) 0 else followK f k s
theorem posJ_zero (k s : Nat) : posJ f k 0 s = followK f k s := by simp [posJ]
theorem posJ_all (k s : Nat) : posJ f k (f.lots.getD k default).inn.length s = followK f (k + 1) s := by rw [posJ, List.take_length]; rfl
theorem posJ_step (hc : checkF f = 0) (hk : knownF f = true) {S k j : Nat} (hS : f.senders = S) (hlt : k < f.lots.length) (hj : j < (f.lots.getD k default).inn.length) {m : List (Int × Int)} (h : OfInv S (posJ f k j) m) :
    ∃ s0 : Nat, s0 < S ∧ lkI ((f.lots.getD k default).inn.getD j 0) m = some (s0 : Int) ∧ OfInv S (posJ f k (j + 1)) (dlI ((f.lots.getD k default).inn.getD j 0) (upI (befF f k + (f.lots.getD k default).perm.getD j 0) s0 m)) := by
  have hg := goodL_at hc hlt
  have hpl := hg.pl (knownF_at hk hlt)
  have hfr := hg.fr _ (getD_mem hj)
  obtain ⟨s0, hs0, e0⟩ := follow_onto hc hk (k := k) (by omega) _ hfr.1 hfr.2.1 hfr.2.2
  have hnt : (f.lots.getD k default).inn.getD j 0 ∉ (f.lots.getD k default).inn.take j := ((nodup_take hj).1 (hg.nd.sublist (List.take_sublist _ _))).2
  have sub : ∀ {u : Int}, u ∈ (f.lots.getD k default).inn.take j → u ∈ (f.lots.getD k default).inn := fun hm => List.mem_of_mem_take hm
  have low : ∀ {u : Int}, u ∈ (f.lots.getD k default).inn → 0 ≤ (f.lots.getD k default).perm.getD ((f.lots.getD k default).inn.idxOf u) 0 := fun hm => by
    obtain ⟨i1, _⟩ := idx_get hm
    exact (hpl.2.2 _ (getD_mem (by rw [hpl.1]; exact i1))).1
  have iff : ∀ s, posJ f k j s = (f.lots.getD k default).inn.getD j 0 ↔ followK f k s = (f.lots.getD k default).inn.getD j 0 := fun s => by
    unfold posJ
    split
    · rename_i hm
      have := low (sub hm)
      exact ⟨fun h => by omega, fun h => (hnt (by rw [← h]; exact hm)).elim⟩
    · exact Iff.rfl
  have hS0 : s0 < S := by omega
  refine ⟨s0, hS0, ?_, ?_⟩
  · have := h.lk hS0
    rwa [(iff s0).2 e0] at this
  · refine (h.move hS0 ((iff s0).2 e0) (fun s hs e => ?_) (fun s hs => ?_)).congr fun s hs => ?_
    · exact follow_inj hc hk (by omega) (by omega) (k := k) (by omega) (((iff s).1 e).trans e0.symm)
    · have hin := follow_in hc hk s (by omega) (k := k) (by omega)
      have hpj := (hpl.2.2 _ (getD_mem (show j < (f.lots.getD k default).perm.length by rw [hpl.1]; exact hj))).1
      unfold posJ
      split
      · rename_i hm
        intro e
        obtain ⟨i1, i2⟩ := idx_get (sub hm)
        have := getD_inj hpl.2.1 (by rw [hpl.1]; exact i1) (by rw [hpl.1]; exact hj) (by omega : (f.lots.getD k default).perm.getD _ 0 = (f.lots.getD k default).perm.getD _ 0)
        rw [this] at i2
        rw [← i2] at hm
        exact hnt hm
      · omega
    · have hst := stepF_take (x := f.lots.getD k default) (bef := befF f k) (s := followK f k s) hg.nd hj
      show _ = posJ f k (j + 1) s
      rw [show posJ f k (j + 1) s = _ from hst]
      by_cases e : followK f k s = (f.lots.getD k default).inn.getD j 0
      · rw [if_pos ((iff s).2 e), if_pos e.symm]
      · rw [if_neg (fun h => e ((iff s).1 h)), if_neg (fun h => e h.symm)]
        rfl
end
end Go.Proofs.Ytncihbmehbiekaa


namespace Go.Proofs.Ytncihbmehbiekaa
set_option linter.unusedSimpArgs false
set_option linter.unusedVariables false
open Go.RowKit
theorem endsF_lt (f : FlowP) : (endsF f).Pairwise (· < ·) := by
  unfold endsF
  refine List.Pairwise.sublist List.filter_sublist (List.pairwise_map.2 ?_)
  exact List.Pairwise.imp (fun {a b} h => by omega) (List.pairwise_lt_range (n := _))
theorem mem_endsF {f : FlowP} {t : Int} : t ∈ endsF f ↔ 0 ≤ t ∧ t < befF f f.lots.length ∧ t ∉ goneF f f.lots.length := by
  unfold endsF
  rw [List.mem_filter, List.mem_map]
  simp only [List.mem_range, Bool.not_eq_true', decide_eq_false_iff_not]
  exact ⟨fun ⟨⟨n, h1, h2⟩, h3⟩ => ⟨by omega, by omega, h3⟩, fun ⟨h1, h2, h3⟩ => ⟨⟨t.toNat, by omega, by omega⟩, h3⟩⟩
theorem endsF_nd (f : FlowP) : (endsF f).Nodup := List.Pairwise.imp (fun {a b} h => by omega) (endsF_lt f)
end Go.Proofs.Ytncihbmehbiekaa


namespace Go.Proofs.Ytncihbmehbiekaa
set_option linter.unusedSimpArgs false
set_option linter.unusedVariables false
open Go.RowKit
abbrev takeF (f : FlowP) (k : Nat) : FlowP := ⟨f.senders, f.lots.take k⟩
section
variable {f : FlowP} {k i : Nat}
theorem OkF.take (hf : OkF f) (k : Nat) : OkF (takeF f k) := ⟨hf.s, Nat.le_trans (List.length_take_le' _ _) hf.l, fun x hx => hf.lots x (List.mem_of_mem_take hx)⟩
end
end Go.Proofs.Ytncihbmehbiekaa


namespace Go.Proofs.Ytncihbmehbiekaa
set_option linter.unusedSimpArgs false
set_option linter.unusedVariables false
open Go.RowKit
section
variable {f : FlowP} {x : LotP}
end
end Go.Proofs.Ytncihbmehbiekaa


namespace Go.Proofs.Ytncihbmehbiekaa
set_option linter.unusedSimpArgs false
set_option linter.unusedVariables false
open Go.RowKit
def grtB (coal : List Int) (m : Int) (n : Nat) : Bool := decide ((n : Int) ∈ coal) || decide ((n : Int) = m)
/-- the offices below k in a coalition, or m -/
def grtL (coal : List Int) (m : Int) (k : Nat) : List Int := ((List.range k).filter (grtB coal m)).map fun n : Nat => (n : Int)
theorem grtL_succ (coal : List Int) (m : Int) (k : Nat) : grtL coal m (k + 1) = if grtB coal m k = true then grtL coal m k ++ [(k : Int)] else grtL coal m k := by
  unfold grtL
  rw [List.range_succ, List.filter_append, List.map_append]
  by_cases h : grtB coal m k = true <;> simp [h]
theorem grtL_len (coal : List Int) (m : Int) (k : Nat) : (grtL coal m k).length ≤ k := by
  unfold grtL
  rw [List.length_map]
  exact Nat.le_trans (List.length_filter_le _ _) (by simp)
theorem mem_grtL {coal : List Int} {m : Int} {k : Nat} {x : Int} : x ∈ grtL coal m k ↔ ∃ n : Nat, n < k ∧ x = n ∧ (x ∈ coal ∨ x = m) := by
  unfold grtL
  rw [List.mem_map]
  constructor
  · rintro ⟨n, hn, rfl⟩
    rw [List.mem_filter, List.mem_range] at hn
    refine ⟨n, hn.1, rfl, ?_⟩
    have := hn.2
    unfold grtB at this
    simpa using this
  · rintro ⟨n, hn, rfl, h⟩
    refine ⟨n, List.mem_filter.2 ⟨List.mem_range.2 hn, ?_⟩, rfl⟩
    unfold grtB
    simpa using h
theorem coalB_of {l : List Int} (h1 : ∀ x ∈ l, officeB x = true) (h2 : l.Pairwise (· < ·)) : coalB l = true := by
  unfold coalB
  rw [List.all_eq_true]
  intro k hk
  have hk' : k < l.length := by simpa using hk
  have e1 : l.getD k 0 = l[k] := by simp [List.getD, hk']
  have h3 := h1 _ (List.getElem_mem hk')
  rw [e1, h3]
  rcases Nat.eq_zero_or_pos k with h0 | h0
  · simp [h0]
  · have e2 : l.getD (k - 1) 0 = l[k - 1] := by simp [List.getD, show k - 1 < l.length by omega]
    rw [e2]
    have := List.pairwise_iff_getElem.1 h2 (k - 1) k (by omega) hk' (by omega)
    simp
    omega
theorem range_lt (k : Nat) : (List.range k).Pairwise (· < ·) := List.pairwise_lt_range
theorem grtL_coal (coal : List Int) (m : Int) : coalB (grtL coal m 24) = true := by
  refine coalB_of (fun x hx => ?_) ?_
  · obtain ⟨n, h1, h2, _⟩ := mem_grtL.1 hx
    unfold officeB
    simp
    omega
  · unfold grtL
    rw [List.pairwise_map]
    exact ((range_lt 24).sublist List.filter_sublist).imp (fun h => by omega)
section
variable {f : FlowP} {lines : List (List Int)} {coal : List Int}
theorem view_ok (hc : checkF f = 0) (hk : knownF f = true) (hl : linesB lines f.lots.length = true) (ho : coalB coal = true) : errV f lines coal = 0 ∧ viewR f lines coal = ⟨f.senders, viewAt f lines coal f.lots.length⟩ := by
  have : errV f lines coal = 0 := by
    unfold errV
    rw [if_neg (by simpa using hc), if_pos (by rw [hk, hl, ho]; rfl)]
  exact ⟨this, by rw [viewR, if_pos this]⟩
theorem viewAt_get {k : Nat} (h : k < f.lots.length) : (viewAt f lines coal f.lots.length).getD k default = viewL f lines coal k := by
  unfold viewAt
  rw [List.getD, List.getElem?_map, List.getElem?_range h]
  rfl
theorem viewL_inn (k : Nat) : (viewL f lines coal k).inn = (f.lots.getD k default).inn := by
  unfold viewL; split <;> rfl
theorem view_inns : ∀ k, k ≤ f.lots.length → ((viewAt f lines coal f.lots.length).take k).map (·.inn) = (f.lots.take k).map (·.inn) := by
  intro k hk
  refine List.ext_getElem? fun i => ?_
  rw [List.getElem?_map, List.getElem?_map, List.getElem?_take, List.getElem?_take]
  by_cases hi : i < k
  · rw [if_pos hi, if_pos hi]
    have e1 : (viewAt f lines coal f.lots.length)[i]? = some (viewL f lines coal i) := by
      unfold viewAt; rw [List.getElem?_map, List.getElem?_range (by omega)]; rfl
    have e2 : f.lots[i]? = some (f.lots.getD i default) := by rw [List.getD, List.getElem?_eq_getElem (by omega)]; rfl
    rw [e1, e2, Option.map_some, Option.map_some, viewL_inn]
  · rw [if_neg hi, if_neg hi]
abbrev vF (f : FlowP) (lines : List (List Int)) (coal : List Int) : FlowP := ⟨f.senders, viewAt f lines coal f.lots.length⟩
theorem view_bef {k : Nat} (hk : k ≤ f.lots.length) : befF (vF f lines coal) k = befF f k := by
  unfold befF
  have := congrArg (fun l : List (List Int) => (l.map List.length).sum) (view_inns (f := f) (lines := lines) (coal := coal) k hk)
  simp only [List.map_map] at this
  have e : (List.length ∘ fun x : LotP => x.inn) = fun x : LotP => x.inn.length := rfl
  rw [e] at this
  show f.senders + _ = f.senders + _
  rw [this]
theorem view_gone {k : Nat} (hk : k ≤ f.lots.length) : goneF (vF f lines coal) k = goneF f k := by
  unfold goneF
  rw [List.flatMap_def, List.flatMap_def, view_inns k hk]
theorem view_check (hc : checkF f = 0) : checkF (vF f lines coal) = 0 := by
  obtain ⟨z1, z2, z3, z4, z5⟩ := checkF_zero hc
  have hl : (vF f lines coal).lots.length = f.lots.length := viewAt_len _ _ _ _
  unfold checkF
  rw [hl, view_bef (Nat.le_refl _), if_neg (by show ¬ (64 < f.senders ∨ _); omega), if_neg (by show ¬ f.senders < 0; omega), if_pos]
  unfold validF
  rw [hl, List.all_eq_true]
  intro i hi
  have hil : i < f.lots.length := by simpa using hi
  have hg := goodL_at hc hil
  unfold okAt
  rw [view_bef (by omega), view_gone (by omega), viewAt_get hil, goodL_iff]
  unfold viewL
  split
  · exact hg
  · exact ⟨hg.ne, hg.nd, hg.fr, fun h => by simp at h, fun _ => rfl⟩
theorem sees_at (hl : linesB lines f.lots.length = true) {k : Nat} (hk : k < f.lots.length) : ∀ x ∈ lines.getD k [], officeB x = true := by
  unfold linesB at hl
  simp only [Bool.and_eq_true, decide_eq_true_eq, List.all_eq_true] at hl
  have hkl : k < lines.length := by omega
  have e : lines.getD k [] = lines[k] := by simp [List.getD, hkl]
  have := hl.1 _ (List.getElem_mem hkl)
  unfold lineB diffB at this
  simp only [Bool.and_eq_true, List.all_eq_true] at this
  rw [e]
  exact this.2.2
theorem sees_more (hl : linesB lines f.lots.length = true) {m : Int} {k : Nat} (hk : k < f.lots.length) (h : seesB lines coal k = true) : seesB lines (grtL coal m 24) k = true := by
  unfold seesB at h ⊢
  rw [List.all_eq_true] at h ⊢
  intro x hx
  have h1 := h x hx
  have h2 := sees_at hl hk x hx
  unfold officeB at h2
  simp at h1 h2
  exact decide_eq_true (mem_grtL.2 ⟨x.toNat, by omega, by omega, .inl h1⟩)
theorem okF_vF (hf : OkF f) : OkF (vF f lines coal) := by
  refine ⟨hf.s, by rw [viewAt_len]; exact hf.l, fun x hx => ?_⟩
  obtain ⟨k, _, rfl⟩ := List.mem_map.1 hx
  unfold viewL
  split
  · exact hf.at k
  · exact ⟨(hf.at k).inn, by simp, (hf.at k).li, by simp⟩
end
end Go.Proofs.Ytncihbmehbiekaa


namespace Go.Proofs.Ytncihbmehbiekaa
set_option linter.unusedSimpArgs false
set_option linter.unusedVariables false
open Go.RowKit
def setOf (ws : List Nat) (n : Nat) : Bool := (ws.getD (n / 64) 0).testBit (n % 64)
def addS (ws : List Nat) (n : Nat) : List Nat := ws.set (n / 64) (ws.getD (n / 64) 0 ||| 2 ^ (n % 64))
def OkW (ws : List Nat) : Prop := ∀ w ∈ ws, w < 18446744073709551616
theorem OkW.at {ws : List Nat} (h : OkW ws) (k : Nat) : ws.getD k 0 < 18446744073709551616 := by
  rcases Nat.lt_or_ge k ws.length with hk | hk
  · rw [List.getD, List.getElem?_eq_getElem hk]; exact h _ (by simp)
  · rw [List.getD, List.getElem?_eq_none hk]; decide
theorem or_lt {w r : Nat} (hw : w < 18446744073709551616) (hr : r < 64) : w ||| 2 ^ r < 18446744073709551616 := by
  have h1 : (18446744073709551616 : Nat) = 2 ^ 64 := by decide
  rw [h1] at hw ⊢
  exact Nat.or_lt_two_pow hw (Nat.pow_lt_pow_right (by omega) hr)
theorem OkW.add {ws : List Nat} (h : OkW ws) (n : Nat) : OkW (addS ws n) := fun w hw => by
  unfold addS at hw
  rcases List.mem_or_eq_of_mem_set hw with hw | rfl
  · exact h w hw
  · exact or_lt (h.at _) (Nat.mod_lt _ (by omega))
theorem addS_len (ws : List Nat) (n : Nat) : (addS ws n).length = ws.length := by simp [addS]
theorem setOf_add {ws : List Nat} {n : Nat} (h : n / 64 < ws.length) (m : Nat) : setOf (addS ws n) m = (setOf ws m || decide (m = n)) := by
  unfold setOf addS
  by_cases hq : n / 64 = m / 64
  · rw [List.getD, ← hq, List.getElem?_set_self h, Option.getD_some, Nat.testBit_or, Nat.testBit_two_pow]
    congr 1
    rw [decide_eq_decide]
    constructor
    · intro hr
      have h1 := Nat.div_add_mod n 64
      have h2 := Nat.div_add_mod m 64
      omega
    · intro e; rw [e]
  · rw [List.getD, List.getElem?_set_ne hq, ← List.getD]
    have : decide (m = n) = false := decide_eq_false (fun e => hq (by rw [e]))
    rw [this, Bool.or_false]
theorem setOf_none (k m : Nat) : setOf (List.replicate k 0) m = false := by
  unfold setOf
  have : (List.replicate k 0).getD (m / 64) 0 = 0 := by
    simp only [List.getD_eq_getElem?_getD, List.getElem?_replicate]
    split <;> rfl
  rw [this, Nat.zero_testBit]
theorem okW_none (k : Nat) : OkW (List.replicate k 0) := fun w hw => by rw [(List.mem_replicate.1 hw).2]; decide
/-- what the code computes of a word -/
theorem u64_wrap {n : Nat} (h : n < 18446744073709551616) : IntKind.u64.wrap (n : Int) = n := by
  simp only [IntKind.wrap, IntKind.signed, IntKind.bits]; simp; omega
theorem ofInt64 {q : Nat} (h : q < 18446744073709551616) : (BitVec.ofInt 64 (q : Int)).toNat = q := by
  rw [BitVec.toNat_ofInt]; omega
theorem has_word {w : Nat} {r : Int} (hw : w < 18446744073709551616) (h0 : 0 ≤ r) (h1 : r < 64) : ((IntKind.u64.wrap (((BitVec.ofInt IntKind.u64.bits ((w : Int).fdiv (2 ^ min r.toNat IntKind.u64.bits)) &&& BitVec.ofInt IntKind.u64.bits 1).toNat : Nat) : Int)) == 1) = w.testBit r.toNat := by
  have hb : IntKind.u64.bits = 64 := rfl
  rw [hb, Nat.min_eq_left (by omega)]
  obtain ⟨k, rfl⟩ : ∃ k : Nat, r = k := ⟨r.toNat, by omega⟩
  rw [Int.toNat_natCast]
  have hd : (w : Int).fdiv (2 ^ k) = ((w / 2 ^ k : Nat) : Int) := by
    rw [Int.fdiv_eq_ediv_of_nonneg]
    · simp
    · exact Int.le_of_lt (Int.pow_pos (by omega))
  have hlt : w / 2 ^ k < 18446744073709551616 := Nat.lt_of_le_of_lt (Nat.div_le_self _ _) hw
  rw [hd]
  have e1 : (BitVec.ofInt 64 ((w / 2 ^ k : Nat) : Int) &&& BitVec.ofInt 64 1).toNat = w / 2 ^ k % 2 := by
    rw [BitVec.toNat_and]
    have a1 : (BitVec.ofInt 64 ((w / 2 ^ k : Nat) : Int)).toNat = w / 2 ^ k := ofInt64 hlt
    have a2 : (BitVec.ofInt 64 1).toNat = 1 := by decide
    rw [a1, a2, Nat.and_one_is_mod]
  rw [e1, u64_wrap (by omega), Nat.testBit_eq_decide_div_mod_eq]
  rw [Bool.eq_iff_iff, beq_iff_eq, decide_eq_true_eq]
  omega
theorem add_word {w : Nat} {r : Int} (hw : w < 18446744073709551616) (h0 : 0 ≤ r) (h1 : r < 64) : IntKind.u64.wrap (((BitVec.ofInt IntKind.u64.bits (w : Int) ||| BitVec.ofInt IntKind.u64.bits (IntKind.u64.wrap (1 * 2 ^ min r.toNat IntKind.u64.bits))).toNat : Nat) : Int) = ((w ||| 2 ^ r.toNat : Nat) : Int) := by
  have hb : IntKind.u64.bits = 64 := rfl
  rw [hb, Nat.min_eq_left (by omega)]
  obtain ⟨k, rfl⟩ : ∃ k : Nat, r = k := ⟨r.toNat, by omega⟩
  rw [Int.toNat_natCast]
  have hk : (2 : Nat) ^ k < 2 ^ 64 := Nat.pow_lt_pow_right (by omega) (by omega)
  have h64 : (18446744073709551616 : Nat) = 2 ^ 64 := by decide
  have e0 : IntKind.u64.wrap (1 * 2 ^ k) = ((2 ^ k : Nat) : Int) := by
    have : (1 * 2 ^ k : Int) = ((2 ^ k : Nat) : Int) := by simp
    rw [this, u64_wrap (by omega)]
  rw [e0]
  have a1 : (BitVec.ofInt 64 (w : Int)).toNat = w := ofInt64 hw
  have a2 : (BitVec.ofInt 64 ((2 ^ k : Nat) : Int)).toNat = 2 ^ k := ofInt64 (by omega)
  rw [BitVec.toNat_or, a1, a2, u64_wrap]
  rw [h64] at hw ⊢
  exact Nat.or_lt_two_pow hw hk
theorem has_wordN {w r : Nat} (hw : w < 18446744073709551616) (h1 : r < 64) : (IntKind.u64.wrap (((BitVec.ofInt IntKind.u64.bits ((w : Int).fdiv (2 ^ min r IntKind.u64.bits)) &&& BitVec.ofInt IntKind.u64.bits 1).toNat : Nat) : Int) == 1) = w.testBit r := by
  have := has_word (r := (r : Int)) hw (by omega) (by omega)
  rwa [Int.toNat_natCast] at this
theorem add_wordN {w r : Nat} (hw : w < 18446744073709551616) (h1 : r < 64) : IntKind.u64.wrap (((BitVec.ofInt IntKind.u64.bits (w : Int) ||| BitVec.ofInt IntKind.u64.bits (IntKind.u64.wrap (1 * 2 ^ min r IntKind.u64.bits))).toNat : Nat) : Int) = ((w ||| 2 ^ r : Nat) : Int) := by
  have := add_word (r := (r : Int)) hw (by omega) (by omega)
  rwa [Int.toNat_natCast] at this
end Go.Proofs.Ytncihbmehbiekaa


namespace Go.Proofs.Ytncihbmehbiekaa
set_option linter.unusedSimpArgs false
set_option linter.unusedVariables false
open Go.RowKit
/-- the specification: the outs that a letter at some of the spots can reach -/
def canB (x : LotP) (sp : List Int) (j : Nat) : Bool := (List.range x.inn.length).any fun i => decide (x.inn.getD i 0 ∈ sp) && (!x.known || (x.perm.getD i 0 == (j : Int)))
def outL (x : LotP) (n : Int) (sp : List Int) (k : Nat) : List Int := ((List.range k).filter (canB x sp)).map fun j : Nat => n + j
def folL (x : LotP) (n : Int) (sp : List Int) : List Int := sp ++ outL x n sp x.inn.length
def spL (f : FlowP) (s : Int) : Nat → List Int
  | 0 => [s]
  | k + 1 => folL (f.lots.getD k default) (befF f k) (spL f s k)
theorem mem_outL {x : LotP} {n : Int} {sp : List Int} {k : Nat} {m : Int} : m ∈ outL x n sp k ↔ ∃ j : Nat, j < k ∧ m = n + j ∧ canB x sp j = true := by
  unfold outL
  rw [List.mem_map]
  constructor
  · rintro ⟨j, hj, rfl⟩
    rw [List.mem_filter, List.mem_range] at hj
    exact ⟨j, hj.1, rfl, hj.2⟩
  · rintro ⟨j, hj, rfl, h⟩
    exact ⟨j, List.mem_filter.2 ⟨List.mem_range.2 hj, h⟩, rfl⟩
theorem canB_iff {x : LotP} {sp : List Int} {j : Nat} : canB x sp j = true ↔ ∃ i, i < x.inn.length ∧ x.inn.getD i 0 ∈ sp ∧ (x.known = false ∨ x.perm.getD i 0 = (j : Int)) := by
  unfold canB
  rw [List.any_eq_true]
  constructor
  · rintro ⟨i, hi, h⟩
    refine ⟨i, by simpa using hi, ?_⟩
    simpa using h
  · rintro ⟨i, hi, h⟩
    exact ⟨i, by simpa using hi, by simpa using h⟩
theorem mem_spL_succ {f : FlowP} {s : Int} {k : Nat} {m : Int} : m ∈ spL f s (k + 1) ↔ m ∈ spL f s k ∨ ∃ j : Nat, j < (f.lots.getD k default).inn.length ∧ m = befF f k + j ∧ canB (f.lots.getD k default) (spL f s k) j = true := by
  rw [spL, folL, List.mem_append, mem_outL]
/-- the words, as the code goes -/
def stW (bef : Nat) (x : LotP) (i : Nat) (ws : List Nat) : List Nat :=
  if x.known = false then addS ws (bef + i) else if setOf ws (x.inn.getD i 0).toNat = true then addS ws (bef + (x.perm.getD i 0).toNat) else ws
def inW (bef : Nat) (x : LotP) : Nat → List Nat → List Nat
  | 0, ws => ws
  | i + 1, ws => stW bef x i (inW bef x i ws)
def someB (x : LotP) (ws : List Nat) : Bool := x.inn.any fun s => setOf ws s.toNat
def lotW (bef : Nat) (x : LotP) (i : Nat) (ws : List Nat) : List Nat := if someB x ws = true then inW bef x i ws else ws
def nW (f : FlowP) : Nat := (befF f f.lots.length).toNat / 64 + 1
def spW (f : FlowP) (s : Nat) : Nat → List Nat
  | 0 => addS (List.replicate (nW f) 0) s
  | k + 1 => lotW (befF f k).toNat (f.lots.getD k default) (f.lots.getD k default).inn.length (spW f s k)
theorem stW_len (bef : Nat) (x : LotP) (i : Nat) (ws : List Nat) : (stW bef x i ws).length = ws.length := by
  unfold stW; split <;> (try split) <;> simp [addS_len]
theorem inW_len (bef : Nat) (x : LotP) (ws : List Nat) : ∀ i, (inW bef x i ws).length = ws.length
  | 0 => rfl
  | i + 1 => by rw [inW, stW_len, inW_len bef x ws i]
theorem lotW_len (bef : Nat) (x : LotP) (i : Nat) (ws : List Nat) : (lotW bef x i ws).length = ws.length := by
  unfold lotW; split
  · exact inW_len _ _ _ _
  · rfl
theorem spW_len (f : FlowP) (s : Nat) : ∀ k, (spW f s k).length = nW f
  | 0 => by rw [spW, addS_len, List.length_replicate]
  | k + 1 => by rw [spW, lotW_len, spW_len f s k]
theorem stW_ok {bef : Nat} {x : LotP} {i : Nat} {ws : List Nat} (h : OkW ws) : OkW (stW bef x i ws) := by
  unfold stW; split
  · exact h.add _
  · split
    · exact h.add _
    · exact h
theorem inW_ok {bef : Nat} {x : LotP} {ws : List Nat} (h : OkW ws) : ∀ i, OkW (inW bef x i ws)
  | 0 => h
  | i + 1 => stW_ok (inW_ok h i)
theorem lotW_ok {bef : Nat} {x : LotP} {i : Nat} {ws : List Nat} (h : OkW ws) : OkW (lotW bef x i ws) := by
  unfold lotW; split
  · exact inW_ok h i
  · exact h
theorem spW_ok (f : FlowP) (s : Nat) : ∀ k, OkW (spW f s k)
  | 0 => (okW_none _).add _
  | k + 1 => lotW_ok (spW_ok f s k)
/-- one lot: the outs are beyond its ins -/
theorem inW_set {bef : Nat} {x : LotP} {ws : List Nat} (hsz : bef + x.inn.length ≤ 64 * ws.length) (hin : ∀ s ∈ x.inn, 0 ≤ s ∧ s < (bef : Int)) (hp : x.known = true → x.perm.length = x.inn.length ∧ ∀ p ∈ x.perm, 0 ≤ p ∧ p < (x.inn.length : Int)) : ∀ i, i ≤ x.inn.length → ∀ m, setOf (inW bef x i ws) m = (setOf ws m || (List.range i).any fun k => if x.known = false then decide (m = bef + k) else setOf ws (x.inn.getD k 0).toNat && decide (m = bef + (x.perm.getD k 0).toNat))
  | 0, _, m => by simp [inW]
  | i + 1, hi, m => by
    have ih := inW_set hsz hin hp i (by omega)
    have hl := inW_len bef x ws i
    rw [inW, List.range_succ, List.any_append]
    simp only [List.any_cons, List.any_nil, Bool.or_false]
    rw [← Bool.or_assoc, ← ih m]
    unfold stW
    by_cases hk : x.known = false
    · rw [if_pos hk, if_pos hk, setOf_add (by rw [hl]; omega)]
    · rw [if_neg hk, if_neg hk]
      have hkt : x.known = true := by simpa using hk
      obtain ⟨hp1, hp2⟩ := hp hkt
      have hs := hin _ (getD_mem (show i < x.inn.length by omega))
      have hpi := hp2 _ (getD_mem (show i < x.perm.length by omega))
      have hold : setOf (inW bef x i ws) (x.inn.getD i 0).toNat = setOf ws (x.inn.getD i 0).toNat := by
        rw [ih]
        have : ((List.range i).any fun k => if x.known = false then decide ((x.inn.getD i 0).toNat = bef + k) else setOf ws (x.inn.getD k 0).toNat && decide ((x.inn.getD i 0).toNat = bef + (x.perm.getD k 0).toNat)) = false := by
          rw [List.any_eq_false]
          intro k _
          rw [if_neg hk, show decide ((x.inn.getD i 0).toNat = bef + (x.perm.getD k 0).toNat) = false from decide_eq_false (by omega), Bool.and_false]
          simp
        rw [this, Bool.or_false]
      rw [hold]
      by_cases hq : setOf ws (x.inn.getD i 0).toNat = true
      · rw [if_pos hq, hq, Bool.true_and, setOf_add (by rw [hl]; omega)]
      · rw [if_neg hq]
        simp only [Bool.not_eq_true] at hq
        rw [hq, Bool.false_and, Bool.or_false]
theorem spW_set {f : FlowP} (hc : checkF f = 0) {s : Nat} (hs : (s : Int) < f.senders) : ∀ k, k ≤ f.lots.length → (∀ m, setOf (spW f s k) m = decide ((m : Int) ∈ spL f s k)) ∧ ∀ m ∈ spL f s k, 0 ≤ m ∧ m < befF f k
  | 0, _ => by
    obtain ⟨z1, z2, z3, z4, _⟩ := checkF_zero hc
    have hb := befF_mono (f := f) (Nat.le_refl f.lots.length)
    refine ⟨fun m => ?_, fun m hm => ?_⟩
    · rw [spW, setOf_add (by rw [List.length_replicate]; unfold nW; omega), setOf_none, Bool.false_or, decide_eq_decide, spL, List.mem_singleton]
      omega
    · rw [spL, List.mem_singleton] at hm
      subst hm
      unfold befF
      simp
      omega
  | k + 1, hk => by
    obtain ⟨ih, ihb⟩ := spW_set hc hs k (by omega)
    have hg := goodL_at hc (k := k) (by omega)
    have hb1 := befF_succ (f := f) (k := k) (by omega)
    have hb2 := befF_mono (f := f) (k := k + 1) hk
    have hb3 := befF_mono (f := f) (k := k) (by omega)
    obtain ⟨z1, z2, z3, z4, _⟩ := checkF_zero hc
    rw [spW]
    have hmem : ∀ m, m ∈ spL f s (k + 1) ↔ _ := fun m => mem_spL_succ (f := f) (s := s) (k := k) (m := m)
    obtain ⟨x, hx⟩ : ∃ x, x = f.lots.getD k default := ⟨_, rfl⟩
    obtain ⟨b, hbk⟩ : ∃ b : Nat, befF f k = b := ⟨(befF f k).toNat, by omega⟩
    simp only [← hx, hbk] at hmem hg hb1 ⊢
    rw [Int.toNat_natCast]
    refine ⟨fun m => ?_, fun m hm => ?_⟩
    · have hin : ∀ t ∈ x.inn, 0 ≤ t ∧ t < (b : Int) := fun t ht => ⟨(hg.fr t ht).1, (hg.fr t ht).2.1⟩
      have hset := inW_set (bef := b) (x := x) (ws := spW f s k) (by rw [spW_len]; unfold nW; omega) hin (fun h => ⟨(hg.pl h).1, (hg.pl h).2.2⟩) x.inn.length (Nat.le_refl _) m
      have hat : ∀ i, i < x.inn.length → setOf (spW f s k) (x.inn.getD i 0).toNat = decide (x.inn.getD i 0 ∈ spL f s k) := fun i hi => by
        have := hin _ (getD_mem hi)
        rw [ih, Int.toNat_of_nonneg this.1]
      have hsome : someB x (spW f s k) = true ↔ ∃ i, i < x.inn.length ∧ x.inn.getD i 0 ∈ spL f s k := by
        unfold someB
        rw [List.any_eq_true]
        constructor
        · rintro ⟨t, ht, h⟩
          obtain ⟨i, hi, rfl⟩ := List.getElem_of_mem ht
          have e : x.inn.getD i 0 = x.inn[i] := by simp [List.getD, hi]
          refine ⟨i, hi, ?_⟩
          have := hat i hi
          rw [e, h] at this
          rw [e]
          simpa using this.symm
        · rintro ⟨i, hi, h⟩
          exact ⟨_, getD_mem hi, by rw [hat i hi]; exact decide_eq_true h⟩
      unfold lotW
      rw [Bool.eq_iff_iff, decide_eq_true_eq, hmem]
      by_cases hsm : someB x (spW f s k) = true
      · rw [if_pos hsm, hset, Bool.or_eq_true, ih, decide_eq_true_eq, List.any_eq_true]
        refine or_congr Iff.rfl ?_
        constructor
        · rintro ⟨i, hi, h⟩
          have hi' : i < x.inn.length := by simpa using hi
          by_cases hkn : x.known = false
          · rw [if_pos hkn, decide_eq_true_eq] at h
            obtain ⟨i0, h1, h2⟩ := hsome.1 hsm
            exact ⟨i, hi', by omega, canB_iff.2 ⟨i0, h1, h2, .inl hkn⟩⟩
          · have hkt : x.known = true := by simpa using hkn
            rw [if_neg hkn, Bool.and_eq_true, hat i hi', decide_eq_true_eq, decide_eq_true_eq] at h
            have hp := (hg.pl hkt).2.2 _ (getD_mem (show i < x.perm.length by rw [(hg.pl hkt).1]; exact hi'))
            refine ⟨(x.perm.getD i 0).toNat, by omega, by omega, canB_iff.2 ⟨i, hi', h.1, .inr ?_⟩⟩
            rw [Int.toNat_of_nonneg hp.1]
        · rintro ⟨j, hj, hm, h⟩
          obtain ⟨i, hi, h1, h2⟩ := canB_iff.1 h
          by_cases hkn : x.known = false
          · exact ⟨j, by simpa using hj, by rw [if_pos hkn, decide_eq_true_eq]; omega⟩
          · have hkt : x.known = true := by simpa using hkn
            have h3 : x.perm.getD i 0 = j := h2.resolve_left (by rw [hkt]; simp)
            refine ⟨i, by simpa using hi, ?_⟩
            rw [if_neg hkn, Bool.and_eq_true, hat i hi, decide_eq_true_eq, decide_eq_true_eq, h3]
            exact ⟨h1, by omega⟩
      · rw [if_neg hsm, ih, decide_eq_true_eq]
        refine ⟨Or.inl, fun h => h.resolve_right ?_⟩
        rintro ⟨j, hj, hm, h⟩
        obtain ⟨i, hi, h1, h2⟩ := canB_iff.1 h
        exact hsm (hsome.2 ⟨i, hi, h1⟩)
    · rcases (hmem m).1 hm with h | ⟨j, hj, hm, _⟩
      · have := ihb m h
        omega
      · omega
/-- a sender's ends -/
def endS (f : FlowP) (s : Int) : List Int := (endsF f).filter fun t => decide (t ∈ spL f s f.lots.length)
def errE (f : FlowP) (s : Int) : Int := if checkF f ≠ 0 then checkF f else if s < 0 ∨ f.senders ≤ s then 1 else 0
def endR (f : FlowP) (s : Int) : List Int := if errE f s = 0 then endS f s else []
def matA (f : FlowP) (k : Nat) : List (List Int) := (List.range k).map fun s : Nat => endS f s
def matR (f : FlowP) : List (List Int) := if checkF f = 0 then matA f f.senders.toNat else []
theorem matA_succ (f : FlowP) (k : Nat) : matA f (k + 1) = matA f k ++ [endS f k] := by simp [matA, List.range_succ]
theorem matA_len (f : FlowP) (k : Nat) : (matA f k).length = k := by simp [matA]
def sndS (f : FlowP) (t : Int) (k : Nat) : List Int := ((List.range k).filter fun s : Nat => decide (t ∈ spL f s f.lots.length)).map fun s : Nat => (s : Int)
def errS (f : FlowP) (t : Int) : Int := if checkF f ≠ 0 then checkF f else if t ∈ endsF f then 0 else 1
def sndR (f : FlowP) (t : Int) : List Int := if errS f t = 0 then sndS f t f.senders.toNat else []
end Go.Proofs.Ytncihbmehbiekaa


namespace Go.Proofs.Ytncihbmehbiekaa
set_option linter.unusedSimpArgs false
set_option linter.unusedVariables false
open Go.RowKit
def plOK (x : LotP) : Prop := x.perm.length = x.inn.length ∧ x.perm.Nodup ∧ ∀ p ∈ x.perm, 0 ≤ p ∧ p < (x.inn.length : Int)
/-- g knows at least what f knows -/
structure FinF (f g : FlowP) : Prop where
  s : g.senders = f.senders
  l : g.lots.length = f.lots.length
  lots : ∀ k, k < f.lots.length → g.lots.getD k default = f.lots.getD k default ∨ ((f.lots.getD k default).known = false ∧ (g.lots.getD k default).known = true ∧ (g.lots.getD k default).inn = (f.lots.getD k default).inn ∧ plOK (g.lots.getD k default))
section
variable {f g : FlowP}
theorem FinF.inn (h : FinF f g) {k : Nat} (hk : k < f.lots.length) : (g.lots.getD k default).inn = (f.lots.getD k default).inn := by
  rcases h.lots k hk with e | ⟨_, _, e, _⟩
  · rw [e]
  · exact e
theorem FinF.inns (h : FinF f g) : ∀ k, k ≤ f.lots.length → (g.lots.take k).map (·.inn) = (f.lots.take k).map (·.inn) := by
  intro k hk
  refine List.ext_getElem? fun i => ?_
  rw [List.getElem?_map, List.getElem?_map, List.getElem?_take, List.getElem?_take]
  by_cases hi : i < k
  · rw [if_pos hi, if_pos hi]
    have e1 : g.lots[i]? = some (g.lots.getD i default) := by rw [List.getD, List.getElem?_eq_getElem (by rw [h.l]; omega)]; rfl
    have e2 : f.lots[i]? = some (f.lots.getD i default) := by rw [List.getD, List.getElem?_eq_getElem (by omega)]; rfl
    rw [e1, e2, Option.map_some, Option.map_some, h.inn (by omega)]
  · rw [if_neg hi, if_neg hi]
theorem FinF.bef (h : FinF f g) {k : Nat} (hk : k ≤ f.lots.length) : befF g k = befF f k := by
  unfold befF
  have := congrArg (fun l : List (List Int) => (l.map List.length).sum) (h.inns k hk)
  simp only [List.map_map] at this
  have e : (List.length ∘ fun x : LotP => x.inn) = fun x : LotP => x.inn.length := rfl
  rw [e] at this
  rw [h.s, this]
theorem FinF.gone (h : FinF f g) {k : Nat} (hk : k ≤ f.lots.length) : goneF g k = goneF f k := by
  unfold goneF
  rw [List.flatMap_def, List.flatMap_def, h.inns k hk]
theorem FinF.check (h : FinF f g) (hc : checkF f = 0) : checkF g = 0 := by
  obtain ⟨z1, z2, z3, z4, z5⟩ := checkF_zero hc
  unfold checkF
  rw [h.l, h.bef (Nat.le_refl _), h.s, if_neg (by omega), if_neg (by omega), if_pos]
  unfold validF
  rw [h.l, List.all_eq_true]
  intro i hi
  have hil : i < f.lots.length := by simpa using hi
  have hg := goodL_at hc hil
  unfold okAt
  rw [h.bef (by omega), h.gone (by omega), goodL_iff]
  rcases h.lots i hil with e | ⟨_, e2, e3, e4⟩
  · rw [e]; exact hg
  · exact ⟨by rw [e3]; exact hg.ne, by rw [e3]; exact hg.nd, by rw [e3]; exact hg.fr, fun _ => e4, fun h => by rw [e2] at h; simp at h⟩
theorem FinF.ends (h : FinF f g) : endsF g = endsF f := by
  unfold endsF
  rw [h.l, h.bef (Nat.le_refl _), h.gone (Nat.le_refl _)]
theorem FinF.sp (h : FinF f g) (s : Int) : ∀ k, k ≤ f.lots.length → ∀ m, m ∈ spL g s k → m ∈ spL f s k
  | 0, _, m, hm => hm
  | k + 1, hk, m, hm => by
    have ih := h.sp s k (by omega)
    rw [mem_spL_succ] at hm ⊢
    rcases hm with hm | ⟨j, h1, h2, h3⟩
    · exact .inl (ih m hm)
    · rw [h.inn (by omega)] at h1
      rw [h.bef (by omega)] at h2
      refine .inr ⟨j, h1, h2, ?_⟩
      rw [canB_iff] at h3 ⊢
      obtain ⟨i, i1, i2, i3⟩ := h3
      rw [h.inn (by omega)] at i1 i2
      refine ⟨i, i1, ih _ i2, ?_⟩
      rcases h.lots k (by omega) with e | ⟨e, _⟩
      · rw [e] at i3; exact i3
      · exact .inl e
/-- where the letter of a known flow is, is among its spots -/
theorem follow_sp (hc : checkF g = 0) (hk : knownF g = true) (s : Nat) (hs : (s : Int) < g.senders) : ∀ k, k ≤ g.lots.length → followK g k s ∈ spL g s k
  | 0, _ => by simp [followK, spL]
  | k + 1, hkl => by
    have ih := follow_sp hc hk s hs k (by omega)
    have hlt : k < g.lots.length := by omega
    have hg := goodL_at hc hlt
    have hpl := hg.pl (knownF_at hk hlt)
    rw [mem_spL_succ, followK, stepF]
    split
    · rename_i hm
      obtain ⟨i1, i2⟩ := idx_get hm
      have hp := hpl.2.2 _ (getD_mem (show List.idxOf (followK g k s) (g.lots.getD k default).inn < (g.lots.getD k default).perm.length by rw [hpl.1]; exact i1))
      exact .inr ⟨((g.lots.getD k default).perm.getD ((g.lots.getD k default).inn.idxOf (followK g k s)) 0).toNat, by omega, by omega, canB_iff.2 ⟨_, i1, by rw [i2]; exact ih, .inr (by omega)⟩⟩
    · exact .inl ih
theorem sp_follow (hc : checkF g = 0) (hk : knownF g = true) (s : Nat) (hs : (s : Int) < g.senders) : ∀ k, k ≤ g.lots.length → ∀ m, m ∈ spL g s k → m ∉ goneF g k → m = followK g k s
  | 0, _, m, hm, _ => by simpa [followK, spL] using hm
  | k + 1, hkl, m, hm, hg0 => by
    have ih := sp_follow hc hk s hs k (by omega)
    have hlt : k < g.lots.length := by omega
    have hg := goodL_at hc hlt
    have hpl := hg.pl (knownF_at hk hlt)
    rw [goneF_succ hlt, List.mem_append, not_or] at hg0
    rw [mem_spL_succ] at hm
    rcases hm with hm | ⟨j, h1, h2, h3⟩
    · have e := ih m hm hg0.1
      rw [followK, stepF, ← e, if_neg hg0.2]
    · obtain ⟨i, i1, i2, i3⟩ := canB_iff.1 h3
      have i3 := i3.resolve_left (by rw [knownF_at hk hlt]; simp)
      have e := ih _ i2 (hg.fr _ (getD_mem i1)).2.2
      have hix : (g.lots.getD k default).inn.idxOf ((g.lots.getD k default).inn.getD i 0) = i := by
        obtain ⟨j1, j2⟩ := idx_get (getD_mem i1)
        exact getD_inj hg.nd j1 i1 j2
      rw [followK, stepF, ← e, if_pos (getD_mem i1), hix, i3, h2]
theorem follow_end (hc : checkF g = 0) (hk : knownF g = true) (s : Nat) (hs : (s : Int) < g.senders) : followK g g.lots.length s ∈ endsF g := by
  rw [mem_endsF]
  exact follow_in hc hk s hs (Nat.le_refl _)
theorem FinF.way_end (h : FinF f g) (hc : checkF f = 0) (hk : knownF g = true) (s : Nat) (hs : (s : Int) < f.senders) : followK g g.lots.length s ∈ endS f s := by
  have h1 := follow_end (h.check hc) hk s (by rw [h.s]; exact hs)
  have h2 := follow_sp (h.check hc) hk s (by rw [h.s]; exact hs) _ (Nat.le_refl _)
  rw [h.ends] at h1
  rw [h.l] at h1 h2 ⊢
  exact List.mem_filter.2 ⟨h1, decide_eq_true (h.sp s _ (Nat.le_refl _) _ h2)⟩
theorem mem_sndS {t : Int} {N : Nat} {s : Int} : s ∈ sndS f t N ↔ 0 ≤ s ∧ s < (N : Int) ∧ t ∈ spL f s f.lots.length := by
  unfold sndS
  simp only [List.mem_map, List.mem_filter, List.mem_range, decide_eq_true_eq]
  constructor
  · rintro ⟨a, ⟨h1, h2⟩, rfl⟩
    exact ⟨by omega, by omega, h2⟩
  · rintro ⟨h1, h2, h3⟩
    refine ⟨s.toNat, ⟨by omega, ?_⟩, by omega⟩
    rw [Int.toNat_of_nonneg h1]; exact h3
theorem mem_endS {t s : Int} : t ∈ endS f s ↔ t ∈ endsF f ∧ t ∈ spL f s f.lots.length := by
  unfold endS
  rw [List.mem_filter, decide_eq_true_eq]
theorem range_plOK (n : Nat) : ((List.range n).map fun n : Nat => (n : Int)).Nodup ∧ ∀ p ∈ (List.range n).map fun n : Nat => (n : Int), 0 ≤ p ∧ p < (n : Int) := by
  refine ⟨List.pairwise_map.2 (List.Pairwise.imp (fun {a b} h e => h (by omega)) (List.nodup_range (n := n))), fun p hp => ?_⟩
  obtain ⟨a, h1, rfl⟩ := List.mem_map.1 hp
  have := List.mem_range.1 h1
  omega
theorem filter_one {l : List Int} (hn : l.Nodup) {p : Int → Bool} {t : Int} (ht : t ∈ l) (hp : ∀ x ∈ l, p x = true ↔ x = t) : l.filter p = [t] := by
  induction l with
  | nil => simp at ht
  | cons a l ih =>
    rw [List.nodup_cons] at hn
    rw [List.filter_cons]
    rcases List.mem_cons.1 ht with e | h
    · subst e
      rw [if_pos ((hp t (by simp)).2 rfl)]
      have : l.filter p = [] := List.filter_eq_nil_iff.2 fun x hx hpx => by
        have := (hp x (List.mem_cons_of_mem _ hx)).1 hpx
        subst this; exact hn.1 hx
      rw [this]
    · rw [if_neg fun hpa => by
        have := (hp a (by simp)).1 hpa
        subst this; exact hn.1 h]
      exact ih hn.2 h fun x hx => hp x (List.mem_cons_of_mem _ hx)
end
end Go.Proofs.Ytncihbmehbiekaa


namespace Go.Proofs.Ytncihbmehbiekaa
set_option linter.unusedSimpArgs false
set_option linter.unusedVariables false
open Go.RowKit
def swapL (l : List Int) (i k : Nat) : List Int := (l.set i (l.getD k 0)).set k (l.getD i 0)
def rngI (n : Nat) : List Int := (List.range n).map fun n : Nat => (n : Int)
def pickN (ps : List Nat) (at' i n : Nat) : Nat := i + (if at' < ps.length then ps.getD at' 0 % (n - i) else 0)
def shufI (ps : List Nat) (at' n : Nat) : Nat → List Int
  | 0 => rngI n
  | i + 1 => swapL (shufI ps at' n i) i (pickN ps (at' + i) i n)
theorem rngI_len (n : Nat) : (rngI n).length = n := by simp [rngI]
theorem swapL_len (l : List Int) (i k : Nat) : (swapL l i k).length = l.length := by simp [swapL]
theorem shufI_len (ps : List Nat) (a n : Nat) : ∀ i, (shufI ps a n i).length = n
  | 0 => rngI_len n
  | i + 1 => by rw [shufI, swapL_len, shufI_len ps a n i]
theorem swapL_mem {l : List Int} {i k : Nat} (hi : i < l.length) (hk : k < l.length) {t : Int} (h : t ∈ swapL l i k) : t ∈ l := by
  unfold swapL at h
  rcases List.mem_or_eq_of_mem_set h with h | h
  · rcases List.mem_or_eq_of_mem_set h with h | h
    · exact h
    · rw [h]; exact getD_mem hk
  · rw [h]; exact getD_mem hi
theorem swapL_nd {l : List Int} {i k : Nat} (hi : i < l.length) (hk : k < l.length) (h : l.Nodup) : (swapL l i k).Nodup := by
  unfold List.Nodup
  rw [List.pairwise_iff_getElem]
  intro a b ha hb hab
  have ha' : a < l.length := by simpa [swapL] using ha
  have hb' : b < l.length := by simpa [swapL] using hb
  have inj : ∀ {c d : Nat} (hc : c < l.length) (hd : d < l.length), l[c] = l[d] → c = d := fun hc hd e => (List.getElem_inj h).1 e
  simp only [swapL, List.getElem_set, List.getD, List.getElem?_eq_getElem hi, List.getElem?_eq_getElem hk, Option.getD_some]
  split <;> split <;> (try split) <;> (try split) <;> intro e <;> have := inj _ _ e <;> omega
theorem pickN_lt {ps : List Nat} {a i n : Nat} (h : i < n) : i ≤ pickN ps a i n ∧ pickN ps a i n < n := by
  unfold pickN
  split
  · have := Nat.mod_lt (ps.getD a 0) (show n - i > 0 by omega)
    omega
  · omega
theorem shufI_ok (ps : List Nat) (a n : Nat) : ∀ i, i ≤ n → (shufI ps a n i).Nodup ∧ ∀ p ∈ shufI ps a n i, 0 ≤ p ∧ p < (n : Int)
  | 0, _ => range_plOK n
  | i + 1, h => by
    have ih := shufI_ok ps a n i (by omega)
    have hl := shufI_len ps a n i
    have hp := pickN_lt (ps := ps) (a := a + i) (show i < n by omega)
    rw [shufI]
    exact ⟨swapL_nd (by omega) (by omega) ih.1, fun p hm => ih.2 p (swapL_mem (by omega) (by omega) hm)⟩
/-- the lots of the way -/
def wayL (ps : List Nat) (a : Nat) (x : LotP) : LotP := if x.known = true then x else ⟨x.inn, true, shufI ps a x.inn.length x.inn.length⟩
def atN (f : FlowP) : Nat → Nat
  | 0 => 0
  | k + 1 => atN f k + (if (f.lots.getD k default).known = true then 0 else (f.lots.getD k default).inn.length)
theorem atN_le (f : FlowP) : ∀ k, k ≤ f.lots.length → (atN f k : Int) ≤ befF f k - f.senders
  | 0, _ => by simp [atN, befF]
  | k + 1, h => by
    have ih := atN_le f k (by omega)
    have hb := befF_succ (f := f) (k := k) (by omega)
    rw [atN]
    split <;> omega
def wayA (f : FlowP) (ps : List Nat) (k : Nat) : List LotP := (List.range k).map fun i => wayL ps (atN f i) (f.lots.getD i default)
def wayF (f : FlowP) (ps : List Nat) : FlowP := ⟨f.senders, wayA f ps f.lots.length⟩
theorem wayA_len (f : FlowP) (ps : List Nat) (k : Nat) : (wayA f ps k).length = k := by simp [wayA]
theorem wayA_succ (f : FlowP) (ps : List Nat) (k : Nat) : wayA f ps (k + 1) = wayA f ps k ++ [wayL ps (atN f k) (f.lots.getD k default)] := by simp [wayA, List.range_succ]
theorem wayF_at {f : FlowP} {ps : List Nat} {k : Nat} (hk : k < f.lots.length) : (wayF f ps).lots.getD k default = wayL ps (atN f k) (f.lots.getD k default) := by
  show (wayA f ps f.lots.length).getD k default = _
  unfold wayA
  rw [List.getD, List.getElem?_map, List.getElem?_range hk]
  rfl
theorem wayL_pl (ps : List Nat) (a : Nat) (x : LotP) (h : x.known = false) : (wayL ps a x).known = true ∧ (wayL ps a x).inn = x.inn ∧ plOK (wayL ps a x) := by
  have := shufI_ok ps a x.inn.length x.inn.length (Nat.le_refl _)
  rw [wayL, if_neg (by rw [h]; simp)]
  exact ⟨rfl, rfl, shufI_len _ _ _ _, this.1, this.2⟩
theorem wayF_fin (f : FlowP) (ps : List Nat) : FinF f (wayF f ps) := by
  refine ⟨rfl, wayA_len _ _ _, fun k hk => ?_⟩
  rw [wayF_at hk]
  by_cases h : (f.lots.getD k default).known = true
  · exact .inl (by rw [wayL, if_pos h])
  · have h : (f.lots.getD k default).known = false := by simpa using h
    exact .inr ⟨h, wayL_pl _ _ _ h⟩
theorem wayF_known (f : FlowP) (ps : List Nat) : knownF (wayF f ps) = true := by
  unfold knownF
  rw [List.all_eq_true]
  intro k hk
  have hlt : k < f.lots.length := by
    have := wayA_len f ps f.lots.length
    simp [wayF] at hk; omega
  rw [wayF_at hlt]
  by_cases h : (f.lots.getD k default).known = true
  · rw [wayL, if_pos h, h]; rfl
  · rw [(wayL_pl ps _ _ (by simpa using h)).1]; rfl
theorem okL_way {x : LotP} (h : OkL x) (ps : List Nat) (a : Nat) : OkL (wayL ps a x) := by
  unfold wayL
  split
  · exact h
  · have := shufI_ok ps a x.inn.length x.inn.length (Nat.le_refl _)
    have h2 := h.li
    exact ⟨h.inn, fun p hp => by have := this.2 p hp; omega, h.li, by rw [shufI_len]; exact h.li⟩
theorem okF_way {f : FlowP} (h : OkF f) (ps : List Nat) : OkF (wayF f ps) :=
  ⟨h.s, by rw [show (wayF f ps).lots.length = f.lots.length from wayA_len _ _ _]; exact h.l, fun x hx => by
    obtain ⟨k, _, rfl⟩ := List.mem_map.1 (show x ∈ (List.range f.lots.length).map fun i => wayL ps (atN f i) (f.lots.getD i default) from hx)
    exact okL_way (h.at k) ps _⟩
end Go.Proofs.Ytncihbmehbiekaa

