/- NetworkCuts, plainly -/
import Derived.Test.YtmlhpchabnajkaaNetLaw
namespace Go.Proofs.Ytmlhpchabnajkaa
set_option linter.unusedSimpArgs false
set_option linter.unusedVariables false
theorem ltP_trans {p q r : Int × Int} (h : ltP p q = true) (k : ltP q r = true) : ltP p r = true := by
  unfold ltP at *
  simp only [Bool.or_eq_true, Bool.and_eq_true, decide_eq_true_eq] at *
  omega
theorem apartF_some : ∀ (l : List (Int × Int)) (q : Int × Int), apartF (some q) l = true ↔ (∀ p ∈ l, validB p.1 p.2 = true) ∧ l.Pairwise (fun p q => ltP p q = true) ∧ ∀ p ∈ l, ltP q p = true
  | [], q => by simp [apartF]
  | p :: l, q => by
    simp only [apartF, Bool.and_eq_true, apartF_some l p, List.mem_cons, List.pairwise_cons, forall_eq_or_imp]
    constructor
    · rintro ⟨⟨h1, h2⟩, h3, h4, h5⟩
      exact ⟨⟨h1, h3⟩, ⟨h5, h4⟩, h2, fun r hr => ltP_trans h2 (h5 r hr)⟩
    · rintro ⟨⟨h1, h3⟩, ⟨h5, h4⟩, h2, _⟩
      exact ⟨⟨h1, h2⟩, h3, h4, h5⟩
theorem apartB_iff (l : List (Int × Int)) : apartB l = true ↔ (∀ p ∈ l, validB p.1 p.2 = true) ∧ l.Pairwise (fun p q => ltP p q = true) := by
  cases l with
  | nil => simp [apartB, apartF]
  | cons p l =>
    unfold apartB
    simp only [apartF, Bool.and_eq_true, apartF_some l p, List.mem_cons, List.pairwise_cons, forall_eq_or_imp, Bool.and_true]
    constructor
    · rintro ⟨h1, h3, h4, h5⟩; exact ⟨⟨h1, h3⟩, h5, h4⟩
    · rintro ⟨⟨h1, h3⟩, h5, h4⟩; exact ⟨h1, h3, h4, h5⟩
theorem allPairs_apart : apartB allPairs = true := by decide +kernel
theorem mem_allPairs (p : Int × Int) : p ∈ allPairs ↔ validB p.1 p.2 = true := by
  unfold allPairs rowsOf validB
  simp only [List.mem_flatMap, List.mem_filterMap, List.mem_range, Bool.and_eq_true, decide_eq_true_eq]
  constructor
  · rintro ⟨a, ha, b, hb, h⟩
    split at h
    · cases h; simp only; omega
    · cases h
  · rintro ⟨h1, h2, h3⟩
    refine ⟨p.1.toNat, by omega, p.2.toNat, by omega, ?_⟩
    rw [if_pos (by omega)]
    congr 1
    exact Prod.ext (by simp only; omega) (by simp only; omega)
theorem filter_apart (f : Int × Int → Bool) : apartB (allPairs.filter f) = true := by
  obtain ⟨h1, h2⟩ := (apartB_iff _).1 allPairs_apart
  exact (apartB_iff _).2 ⟨fun p hp => h1 p (List.mem_filter.1 hp).1, h2.filter f⟩
theorem linkOf_comm (a b : Int) : linkOf b a = linkOf a b := by unfold linkOf; rw [Int.min_comm, Int.max_comm]
theorem contains_filter (f : Int × Int → Bool) {p : Int × Int} (hp : validB p.1 p.2 = true) : (allPairs.filter f).contains p = f p := by
  rw [Bool.eq_iff_iff, List.contains_iff_mem, List.mem_filter, mem_allPairs]
  simp [hp]
theorem filter_same {f g : Int × Int → Bool} (h : ∀ p, validB p.1 p.2 = true → f p = g p) : allPairs.filter f = allPairs.filter g := List.filter_congr fun p hp => h p ((mem_allPairs p).1 hp)
theorem len_but_one {α : Type} {f g : α → Bool} {c : α} (hf : f c = true) (hg : g c = false) (h : ∀ p, p ≠ c → f p = g p) : ∀ {l : List α}, l.Pairwise (fun p q => p ≠ q) → c ∈ l → (l.filter f).length = (l.filter g).length + 1
  | [], _, hc => by cases hc
  | x :: l, hn, hc => by
    obtain ⟨h1, h2⟩ := List.pairwise_cons.1 hn
    by_cases hx : x = c
    · subst hx
      rw [List.filter_cons_of_pos hf, List.filter_cons_of_neg (by simp [hg])]
      rw [List.length_cons, List.filter_congr fun p hp => h p (fun e => h1 p hp e.symm)]
    · have hc' : c ∈ l := (List.mem_cons.1 hc).resolve_left (fun e => hx e.symm)
      have ih := len_but_one hf hg h h2 hc'
      cases hfx : f x with
      | true => rw [List.filter_cons_of_pos hfx, List.filter_cons_of_pos (by rw [← h x hx]; exact hfx), List.length_cons, List.length_cons, ih]
      | false => rw [List.filter_cons_of_neg (by simp [hfx]), List.filter_cons_of_neg (by rw [← h x hx]; simp [hfx]), ih]
theorem nodup_all : allPairs.Pairwise (fun p q => p ≠ q) := ((apartB_iff _).1 allPairs_apart).2.imp fun {p q} h e => by
  subst e; unfold ltP at h; simp at h
theorem cutE_cases (n : NetM) (a b : Int) (h : netB n = true) : cutE n a b = 0 ∨ cutE n a b = 1 := by
  unfold cutE; rw [if_pos h]; split
  · exact .inl rfl
  · exact .inr rfl
theorem cutE_valid {n : NetM} {a b : Int} (h : netB n = true) (he : cutE n a b = 0) : validB (linkOf a b).1 (linkOf a b).2 = true := by
  unfold cutE at he; rw [if_pos h] at he
  unfold linkOf
  by_cases hv : validB (min a b) (max a b) = true
  · exact hv
  · rw [if_neg hv] at he; omega
theorem cutE_of {n : NetM} {a b : Int} (h : netB n = true) (hv : validB (linkOf a b).1 (linkOf a b).2 = true) : cutE n a b = 0 := by
  unfold cutE; rw [if_pos h]; exact if_pos hv
theorem cutN_of {n : NetM} {a b : Int} (on : Bool) (he : cutE n a b = 0) : cutN n a b on = ⟨n.queue, cutL n.apart (linkOf a b) on⟩ := by unfold cutN; rw [if_pos he]
theorem cut_valid {n : NetM} {a b : Int} (on : Bool) (h : netB n = true) (he : cutE n a b = 0) : netB (cutN n a b on) = true := by
  obtain ⟨h1, h2, _⟩ := netB_parts h
  rw [cutN_of on he]
  exact netB_of h1 h2 (filter_apart _)
theorem cuts_same (n : NetM) (a b : Int) (h : netB n = true) (he : cutE n a b = 0) :
    cutE n b a = 0 ∧ cutN n b a true = cutN n a b true ∧ cutE (cutN n a b true) a b = 0 ∧ cutN (cutN n a b true) a b true = cutN n a b true ∧
    cutE (cutN n a b true) b a = 0 ∧ cutN (cutN n a b true) b a false = cutN n a b false ∧ (cutN n a b true).apart.length = (cutN n a b false).apart.length + 1 := by
  have hv := cutE_valid h he
  have hv' : validB (linkOf b a).1 (linkOf b a).2 = true := by rw [linkOf_comm]; exact hv
  have e1 := cutE_of (n := n) h hv'
  have hX := cut_valid true h he
  have e2 : cutE (cutN n a b true) a b = 0 := cutE_of hX hv
  have e3 : cutE (cutN n a b true) b a = 0 := cutE_of hX hv'
  have hXa : (cutN n a b true).apart = cutL n.apart (linkOf a b) true := by rw [cutN_of true he]
  have hXq : (cutN n a b true).queue = n.queue := by rw [cutN_of true he]
  refine ⟨e1, ?_, e2, ?_, e3, ?_, ?_⟩
  · rw [cutN_of true e1, cutN_of true he, linkOf_comm]
  · rw [cutN_of true e2, hXa, hXq, cutN_of true he]
    simp only [NetM.mk.injEq, true_and]
    refine filter_same fun p hp => ?_
    unfold keepB
    split
    · rfl
    · rename_i hne
      unfold cutL
      rw [contains_filter _ hp]
      unfold keepB
      rw [if_neg hne]
  · rw [cutN_of false e3, hXa, hXq, cutN_of false he, linkOf_comm]
    simp only [NetM.mk.injEq, true_and]
    refine filter_same fun p hp => ?_
    unfold keepB
    split
    · rfl
    · rename_i hne
      unfold cutL
      rw [contains_filter _ hp]
      unfold keepB
      rw [if_neg hne]
  · rw [cutN_of true he, cutN_of false he]
    exact len_but_one (c := linkOf a b) (by unfold keepB; rw [if_pos rfl]) (by unfold keepB; rw [if_pos rfl]) (fun p hp => by unfold keepB; rw [if_neg hp, if_neg hp]) nodup_all ((mem_allPairs _).2 hv)
theorem cutB_of {n : NetM} {a b : Int} (on : Bool) (he : cutE n a b = 0) {x y : Int} (hv : validB (min x y) (max x y) = true) : cutB (cutN n a b on).apart x y = if linkOf x y = linkOf a b then on else cutB n.apart x y := by
  rw [cutN_of on he]
  unfold cutB cutL
  rw [contains_filter _ hv]
  rfl
theorem delP_in {n : NetM} {i : Nat} (h : netB n = true) (hi : i < n.queue.length) : delP n i = if cutB n.apart n.queue[i].src n.queue[i].dst then .nil else n.queue[i] := by
  unfold delP; rw [if_pos (askE_in h hi)]; simp [hi]
theorem cuts_plain (n : NetM) (a b : Int) (i : Nat) (h : netB n = true) (he : cutE n a b = 0) (hi : i < n.queue.length) :
    askE (cutN n a b true) i = 0 ∧ askE (cutN n a b false) i = 0 ∧
    (((delP (cutN n a b false) i).src = a ∧ (delP (cutN n a b false) i).dst = b ∨ (delP (cutN n a b false) i).src = b ∧ (delP (cutN n a b false) i).dst = a) → samePktB (delP (cutN n a b true) i) .nil = true) ∧
    (¬ ((delP (cutN n a b false) i).src = a ∧ (delP (cutN n a b false) i).dst = b ∨ (delP (cutN n a b false) i).src = b ∧ (delP (cutN n a b false) i).dst = a) → samePktB (delP (cutN n a b true) i) .nil = samePktB (delP (cutN n a b false) i) .nil ∧ samePktB (delP (cutN n a b true) i) (delP (cutN n a b false) i) = true) := by
  have hX := cut_valid true h he
  have hK := cut_valid false h he
  have qX : (cutN n a b true).queue = n.queue := by rw [cutN_of true he]
  have qK : (cutN n a b false).queue = n.queue := by rw [cutN_of false he]
  have hv := cutE_valid h he
  obtain ⟨_, h2, _⟩ := netB_parts h
  have hp := all_get h2 hi
  have hpv : validB (min n.queue[i].src n.queue[i].dst) (max n.queue[i].src n.queue[i].dst) = true := by
    unfold pktB at hp; simp only [Bool.and_eq_true] at hp; exact hp.1
  have dX : delP (cutN n a b true) i = if cutB (cutN n a b true).apart n.queue[i].src n.queue[i].dst then .nil else n.queue[i] := by
    rw [delP_in hX (by rw [qX]; exact hi)]; simp only [qX]
  have dK : delP (cutN n a b false) i = if cutB (cutN n a b false).apart n.queue[i].src n.queue[i].dst then .nil else n.queue[i] := by
    rw [delP_in hK (by rw [qK]; exact hi)]; simp only [qK]
  rw [cutB_of true he hpv] at dX
  rw [cutB_of false he hpv] at dK
  refine ⟨askE_in hX (by rw [qX]; exact hi), askE_in hK (by rw [qK]; exact hi), ?_⟩
  rw [dX, dK]
  generalize n.queue[i] = q at *
  have hab : a ≠ b := by intro e; subst e; unfold linkOf validB at hv; simp only [Int.min_self, Int.max_self, Bool.and_eq_true, decide_eq_true_eq] at hv; omega
  have hq : q.src ≠ q.dst := by intro e; rw [e] at hpv; unfold validB at hpv; simp only [Int.min_self, Int.max_self, Bool.and_eq_true, decide_eq_true_eq] at hpv; omega
  by_cases hl : linkOf q.src q.dst = linkOf a b
  · rw [if_pos hl, if_pos hl]
    have hbt : q.src = a ∧ q.dst = b ∨ q.src = b ∧ q.dst = a := by
      unfold linkOf at hl
      simp only [Prod.mk.injEq] at hl
      omega
    simp only [if_true, Bool.false_eq_true, if_false]
    exact ⟨fun _ => rfl, fun h => absurd hbt h⟩
  · rw [if_neg hl, if_neg hl]
    have hbt : ¬ (q.src = a ∧ q.dst = b ∨ q.src = b ∧ q.dst = a) := by
      rintro (⟨h1, h2⟩ | ⟨h1, h2⟩)
      · exact hl (by rw [h1, h2])
      · exact hl (by rw [h1, h2, linkOf_comm])
    cases cutB n.apart q.src q.dst
    · simp only [Bool.false_eq_true, if_false]
      exact ⟨fun h => absurd h hbt, fun _ => ⟨trivial, samePktB_refl q⟩⟩
    · simp only [if_true]
      exact ⟨fun _ => rfl, fun _ => ⟨trivial, rfl⟩⟩
end Go.Proofs.Ytmlhpchabnajkaa
