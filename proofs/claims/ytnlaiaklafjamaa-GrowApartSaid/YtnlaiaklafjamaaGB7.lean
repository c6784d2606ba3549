import Derived.Test.YtnlaiaklafjamaaGB6
import Derived.Test.YtnlaiaklafjamaaGB5
namespace Go.Proofs.Ytnlaiaklafjamaa
set_option linter.unusedSimpArgs false
set_option linter.unusedVariables false
open Go.RowKit
/-- the specification: the outs that a letter at some of the spots can reach -/
def canB (x : LotP) (sp : List Int) (j : Nat) : Bool := (List.range x.inn.length).any fun i => decide (x.inn.getD i 0 ∈ sp) && (!x.known || (x.perm.getD i 0 == (j : Int)))
def outL (x : LotP) (n : Int) (sp : List Int) (k : Nat) : List Int := ((List.range k).filter (canB x sp)).map fun j : Nat => n + j
def folL (x : LotP) (n : Int) (sp : List Int) : List Int := sp ++ outL x n sp x.inn.length
def spL (f : FlowP) (s : Int) : Nat → List Int
  | 0 => [s]
  | k + 1 => folL (f.lots.getD k default) (befF f k) (spL f s k)
theorem outL_succ (x : LotP) (n : Int) (sp : List Int) (k : Nat) : outL x n sp (k + 1) = if canB x sp k = true then outL x n sp k ++ [n + (k : Int)] else outL x n sp k := by
  unfold outL
  rw [List.range_succ, List.filter_append, List.map_append]
  by_cases h : canB x sp k = true <;> simp [h]
theorem outL_len (x : LotP) (n : Int) (sp : List Int) (k : Nat) : (outL x n sp k).length ≤ k := by
  unfold outL
  rw [List.length_map]
  exact Nat.le_trans (List.length_filter_le _ _) (by simp)
theorem mem_outL {x : LotP} {n : Int} {sp : List Int} {k : Nat} {m : Int} : m ∈ outL x n sp k ↔ ∃ j : Nat, j < k ∧ m = n + j ∧ canB x sp j = true := by
  unfold outL
  rw [List.mem_map]
  constructor
  · rintro ⟨j, hj, rfl⟩
    rw [List.mem_filter, List.mem_range] at hj
    exact ⟨j, hj.1, rfl, hj.2⟩
  · rintro ⟨j, hj, rfl, h⟩
    exact ⟨j, List.mem_filter.2 ⟨List.mem_range.2 hj, h⟩, rfl⟩
theorem canB_iff {x : LotP} {sp : List Int} {j : Nat} : canB x sp j = true ↔ ∃ i, i < x.inn.length ∧ x.inn.getD i 0 ∈ sp ∧ (x.known = false ∨ x.perm.getD i 0 = (j : Int)) := by
  unfold canB
  rw [List.any_eq_true]
  constructor
  · rintro ⟨i, hi, h⟩
    refine ⟨i, by simpa using hi, ?_⟩
    simpa using h
  · rintro ⟨i, hi, h⟩
    exact ⟨i, by simpa using hi, by simpa using h⟩
theorem mem_spL_succ {f : FlowP} {s : Int} {k : Nat} {m : Int} : m ∈ spL f s (k + 1) ↔ m ∈ spL f s k ∨ ∃ j : Nat, j < (f.lots.getD k default).inn.length ∧ m = befF f k + j ∧ canB (f.lots.getD k default) (spL f s k) j = true := by
  rw [spL, folL, List.mem_append, mem_outL]
/-- the words, as the code goes -/
def stW (bef : Nat) (x : LotP) (i : Nat) (ws : List Nat) : List Nat :=
  if x.known = false then addS ws (bef + i) else if setOf ws (x.inn.getD i 0).toNat = true then addS ws (bef + (x.perm.getD i 0).toNat) else ws
def inW (bef : Nat) (x : LotP) : Nat → List Nat → List Nat
  | 0, ws => ws
  | i + 1, ws => stW bef x i (inW bef x i ws)
def someB (x : LotP) (ws : List Nat) : Bool := x.inn.any fun s => setOf ws s.toNat
def lotW (bef : Nat) (x : LotP) (i : Nat) (ws : List Nat) : List Nat := if someB x ws = true then inW bef x i ws else ws
def nW (f : FlowP) : Nat := (befF f f.lots.length).toNat / 64 + 1
def spW (f : FlowP) (s : Nat) : Nat → List Nat
  | 0 => addS (List.replicate (nW f) 0) s
  | k + 1 => lotW (befF f k).toNat (f.lots.getD k default) (f.lots.getD k default).inn.length (spW f s k)
theorem stW_len (bef : Nat) (x : LotP) (i : Nat) (ws : List Nat) : (stW bef x i ws).length = ws.length := by
  unfold stW; split <;> (try split) <;> simp [addS_len]
theorem inW_len (bef : Nat) (x : LotP) (ws : List Nat) : ∀ i, (inW bef x i ws).length = ws.length
  | 0 => rfl
  | i + 1 => by rw [inW, stW_len, inW_len bef x ws i]
theorem lotW_len (bef : Nat) (x : LotP) (i : Nat) (ws : List Nat) : (lotW bef x i ws).length = ws.length := by
  unfold lotW; split
  · exact inW_len _ _ _ _
  · rfl
theorem spW_len (f : FlowP) (s : Nat) : ∀ k, (spW f s k).length = nW f
  | 0 => by rw [spW, addS_len, List.length_replicate]
  | k + 1 => by rw [spW, lotW_len, spW_len f s k]
theorem stW_ok {bef : Nat} {x : LotP} {i : Nat} {ws : List Nat} (h : OkW ws) : OkW (stW bef x i ws) := by
  unfold stW; split
  · exact h.add _
  · split
    · exact h.add _
    · exact h
theorem inW_ok {bef : Nat} {x : LotP} {ws : List Nat} (h : OkW ws) : ∀ i, OkW (inW bef x i ws)
  | 0 => h
  | i + 1 => stW_ok (inW_ok h i)
theorem lotW_ok {bef : Nat} {x : LotP} {i : Nat} {ws : List Nat} (h : OkW ws) : OkW (lotW bef x i ws) := by
  unfold lotW; split
  · exact inW_ok h i
  · exact h
theorem spW_ok (f : FlowP) (s : Nat) : ∀ k, OkW (spW f s k)
  | 0 => (okW_none _).add _
  | k + 1 => lotW_ok (spW_ok f s k)
/-- one lot: the outs are beyond its ins -/
theorem inW_set {bef : Nat} {x : LotP} {ws : List Nat} (hsz : bef + x.inn.length ≤ 64 * ws.length) (hin : ∀ s ∈ x.inn, 0 ≤ s ∧ s < (bef : Int)) (hp : x.known = true → x.perm.length = x.inn.length ∧ ∀ p ∈ x.perm, 0 ≤ p ∧ p < (x.inn.length : Int)) : ∀ i, i ≤ x.inn.length → ∀ m, setOf (inW bef x i ws) m = (setOf ws m || (List.range i).any fun k => if x.known = false then decide (m = bef + k) else setOf ws (x.inn.getD k 0).toNat && decide (m = bef + (x.perm.getD k 0).toNat))
  | 0, _, m => by simp [inW]
  | i + 1, hi, m => by
    have ih := inW_set hsz hin hp i (by omega)
    have hl := inW_len bef x ws i
    rw [inW, List.range_succ, List.any_append]
    simp only [List.any_cons, List.any_nil, Bool.or_false]
    rw [← Bool.or_assoc, ← ih m]
    unfold stW
    by_cases hk : x.known = false
    · rw [if_pos hk, if_pos hk, setOf_add (by rw [hl]; omega)]
    · rw [if_neg hk, if_neg hk]
      have hkt : x.known = true := by simpa using hk
      obtain ⟨hp1, hp2⟩ := hp hkt
      have hs := hin _ (getD_mem (show i < x.inn.length by omega))
      have hpi := hp2 _ (getD_mem (show i < x.perm.length by omega))
      have hold : setOf (inW bef x i ws) (x.inn.getD i 0).toNat = setOf ws (x.inn.getD i 0).toNat := by
        rw [ih]
        have : ((List.range i).any fun k => if x.known = false then decide ((x.inn.getD i 0).toNat = bef + k) else setOf ws (x.inn.getD k 0).toNat && decide ((x.inn.getD i 0).toNat = bef + (x.perm.getD k 0).toNat)) = false := by
          rw [List.any_eq_false]
          intro k _
          rw [if_neg hk, show decide ((x.inn.getD i 0).toNat = bef + (x.perm.getD k 0).toNat) = false from decide_eq_false (by omega), Bool.and_false]
          simp
        rw [this, Bool.or_false]
      rw [hold]
      by_cases hq : setOf ws (x.inn.getD i 0).toNat = true
      · rw [if_pos hq, hq, Bool.true_and, setOf_add (by rw [hl]; omega)]
      · rw [if_neg hq]
        simp only [Bool.not_eq_true] at hq
        rw [hq, Bool.false_and, Bool.or_false]
theorem spW_set {f : FlowP} (hc : checkF f = 0) {s : Nat} (hs : (s : Int) < f.senders) : ∀ k, k ≤ f.lots.length → (∀ m, setOf (spW f s k) m = decide ((m : Int) ∈ spL f s k)) ∧ ∀ m ∈ spL f s k, 0 ≤ m ∧ m < befF f k
  | 0, _ => by
    obtain ⟨z1, z2, z3, z4, _⟩ := checkF_zero hc
    have hb := befF_mono (f := f) (Nat.le_refl f.lots.length)
    refine ⟨fun m => ?_, fun m hm => ?_⟩
    · rw [spW, setOf_add (by rw [List.length_replicate]; unfold nW; omega), setOf_none, Bool.false_or, decide_eq_decide, spL, List.mem_singleton]
      omega
    · rw [spL, List.mem_singleton] at hm
      subst hm
      unfold befF
      simp
      omega
  | k + 1, hk => by
    obtain ⟨ih, ihb⟩ := spW_set hc hs k (by omega)
    have hg := goodL_at hc (k := k) (by omega)
    have hb1 := befF_succ (f := f) (k := k) (by omega)
    have hb2 := befF_mono (f := f) (k := k + 1) hk
    have hb3 := befF_mono (f := f) (k := k) (by omega)
    obtain ⟨z1, z2, z3, z4, _⟩ := checkF_zero hc
    rw [spW]
    have hmem : ∀ m, m ∈ spL f s (k + 1) ↔ _ := fun m => mem_spL_succ (f := f) (s := s) (k := k) (m := m)
    obtain ⟨x, hx⟩ : ∃ x, x = f.lots.getD k default := ⟨_, rfl⟩
    obtain ⟨b, hbk⟩ : ∃ b : Nat, befF f k = b := ⟨(befF f k).toNat, by omega⟩
    simp only [← hx, hbk] at hmem hg hb1 ⊢
    rw [Int.toNat_natCast]
    refine ⟨fun m => ?_, fun m hm => ?_⟩
    · have hin : ∀ t ∈ x.inn, 0 ≤ t ∧ t < (b : Int) := fun t ht => ⟨(hg.fr t ht).1, (hg.fr t ht).2.1⟩
      have hset := inW_set (bef := b) (x := x) (ws := spW f s k) (by rw [spW_len]; unfold nW; omega) hin (fun h => ⟨(hg.pl h).1, (hg.pl h).2.2⟩) x.inn.length (Nat.le_refl _) m
      have hat : ∀ i, i < x.inn.length → setOf (spW f s k) (x.inn.getD i 0).toNat = decide (x.inn.getD i 0 ∈ spL f s k) := fun i hi => by
        have := hin _ (getD_mem hi)
        rw [ih, Int.toNat_of_nonneg this.1]
      have hsome : someB x (spW f s k) = true ↔ ∃ i, i < x.inn.length ∧ x.inn.getD i 0 ∈ spL f s k := by
        unfold someB
        rw [List.any_eq_true]
        constructor
        · rintro ⟨t, ht, h⟩
          obtain ⟨i, hi, rfl⟩ := List.getElem_of_mem ht
          have e : x.inn.getD i 0 = x.inn[i] := by simp [List.getD, hi]
          refine ⟨i, hi, ?_⟩
          have := hat i hi
          rw [e, h] at this
          rw [e]
          simpa using this.symm
        · rintro ⟨i, hi, h⟩
          exact ⟨_, getD_mem hi, by rw [hat i hi]; exact decide_eq_true h⟩
      unfold lotW
      rw [Bool.eq_iff_iff, decide_eq_true_eq, hmem]
      by_cases hsm : someB x (spW f s k) = true
      · rw [if_pos hsm, hset, Bool.or_eq_true, ih, decide_eq_true_eq, List.any_eq_true]
        refine or_congr Iff.rfl ?_
        constructor
        · rintro ⟨i, hi, h⟩
          have hi' : i < x.inn.length := by simpa using hi
          by_cases hkn : x.known = false
          · rw [if_pos hkn, decide_eq_true_eq] at h
            obtain ⟨i0, h1, h2⟩ := hsome.1 hsm
            exact ⟨i, hi', by omega, canB_iff.2 ⟨i0, h1, h2, .inl hkn⟩⟩
          · have hkt : x.known = true := by simpa using hkn
            rw [if_neg hkn, Bool.and_eq_true, hat i hi', decide_eq_true_eq, decide_eq_true_eq] at h
            have hp := (hg.pl hkt).2.2 _ (getD_mem (show i < x.perm.length by rw [(hg.pl hkt).1]; exact hi'))
            refine ⟨(x.perm.getD i 0).toNat, by omega, by omega, canB_iff.2 ⟨i, hi', h.1, .inr ?_⟩⟩
            rw [Int.toNat_of_nonneg hp.1]
        · rintro ⟨j, hj, hm, h⟩
          obtain ⟨i, hi, h1, h2⟩ := canB_iff.1 h
          by_cases hkn : x.known = false
          · exact ⟨j, by simpa using hj, by rw [if_pos hkn, decide_eq_true_eq]; omega⟩
          · have hkt : x.known = true := by simpa using hkn
            have h3 : x.perm.getD i 0 = j := h2.resolve_left (by rw [hkt]; simp)
            refine ⟨i, by simpa using hi, ?_⟩
            rw [if_neg hkn, Bool.and_eq_true, hat i hi, decide_eq_true_eq, decide_eq_true_eq, h3]
            exact ⟨h1, by omega⟩
      · rw [if_neg hsm, ih, decide_eq_true_eq]
        refine ⟨Or.inl, fun h => h.resolve_right ?_⟩
        rintro ⟨j, hj, hm, h⟩
        obtain ⟨i, hi, h1, h2⟩ := canB_iff.1 h
        exact hsm (hsome.2 ⟨i, hi, h1⟩)
    · rcases (hmem m).1 hm with h | ⟨j, hj, hm, _⟩
      · have := ihb m h
        omega
      · omega
/-- a sender's ends -/
def endS (f : FlowP) (s : Int) : List Int := (endsF f).filter fun t => decide (t ∈ spL f s f.lots.length)
def matA (f : FlowP) (k : Nat) : List (List Int) := (List.range k).map fun s : Nat => endS f s
def matR (f : FlowP) : List (List Int) := if checkF f = 0 then matA f f.senders.toNat else []
theorem matA_succ (f : FlowP) (k : Nat) : matA f (k + 1) = matA f k ++ [endS f k] := by simp [matA, List.range_succ]
theorem matA_len (f : FlowP) (k : Nat) : (matA f k).length = k := by simp [matA]
end Go.Proofs.Ytnlaiaklafjamaa


namespace Go.Proofs.Ytnlaiaklafjamaa
set_option linter.unusedSimpArgs false
set_option linter.unusedVariables false
open Go.RowKit
def plOK (x : LotP) : Prop := x.perm.length = x.inn.length ∧ x.perm.Nodup ∧ ∀ p ∈ x.perm, 0 ≤ p ∧ p < (x.inn.length : Int)
/-- g knows at least what f knows -/
structure FinF (f g : FlowP) : Prop where
  s : g.senders = f.senders
  l : g.lots.length = f.lots.length
  lots : ∀ k, k < f.lots.length → g.lots.getD k default = f.lots.getD k default ∨ ((f.lots.getD k default).known = false ∧ (g.lots.getD k default).known = true ∧ (g.lots.getD k default).inn = (f.lots.getD k default).inn ∧ plOK (g.lots.getD k default))
section
variable {f g : FlowP}
theorem FinF.inn (h : FinF f g) {k : Nat} (hk : k < f.lots.length) : (g.lots.getD k default).inn = (f.lots.getD k default).inn := by
  rcases h.lots k hk with e | ⟨_, _, e, _⟩
  · rw [e]
  · exact e
theorem FinF.inns (h : FinF f g) : ∀ k, k ≤ f.lots.length → (g.lots.take k).map (·.inn) = (f.lots.take k).map (·.inn) := by
  intro k hk
  refine List.ext_getElem? fun i => ?_
  rw [List.getElem?_map, List.getElem?_map, List.getElem?_take, List.getElem?_take]
  by_cases hi : i < k
  · rw [if_pos hi, if_pos hi]
    have e1 : g.lots[i]? = some (g.lots.getD i default) := by rw [List.getD, List.getElem?_eq_getElem (by rw [h.l]; omega)]; rfl
    have e2 : f.lots[i]? = some (f.lots.getD i default) := by rw [List.getD, List.getElem?_eq_getElem (by omega)]; rfl
    rw [e1, e2, Option.map_some, Option.map_some, h.inn (by omega)]
  · rw [if_neg hi, if_neg hi]
theorem FinF.bef (h : FinF f g) {k : Nat} (hk : k ≤ f.lots.length) : befF g k = befF f k := by
  unfold befF
  have := congrArg (fun l : List (List Int) => (l.map List.length).sum) (h.inns k hk)
  simp only [List.map_map] at this
  have e : (List.length ∘ fun x : LotP => x.inn) = fun x : LotP => x.inn.length := rfl
  rw [e] at this
  rw [h.s, this]
theorem FinF.gone (h : FinF f g) {k : Nat} (hk : k ≤ f.lots.length) : goneF g k = goneF f k := by
  unfold goneF
  rw [List.flatMap_def, List.flatMap_def, h.inns k hk]
theorem FinF.check (h : FinF f g) (hc : checkF f = 0) : checkF g = 0 := by
  obtain ⟨z1, z2, z3, z4, z5⟩ := checkF_zero hc
  unfold checkF
  rw [h.l, h.bef (Nat.le_refl _), h.s, if_neg (by omega), if_neg (by omega), if_pos]
  unfold validF
  rw [h.l, List.all_eq_true]
  intro i hi
  have hil : i < f.lots.length := by simpa using hi
  have hg := goodL_at hc hil
  unfold okAt
  rw [h.bef (by omega), h.gone (by omega), goodL_iff]
  rcases h.lots i hil with e | ⟨_, e2, e3, e4⟩
  · rw [e]; exact hg
  · exact ⟨by rw [e3]; exact hg.ne, by rw [e3]; exact hg.nd, by rw [e3]; exact hg.fr, fun _ => e4, fun h => by rw [e2] at h; simp at h⟩
theorem FinF.ends (h : FinF f g) : endsF g = endsF f := by
  unfold endsF
  rw [h.l, h.bef (Nat.le_refl _), h.gone (Nat.le_refl _)]
theorem FinF.sp (h : FinF f g) (s : Int) : ∀ k, k ≤ f.lots.length → ∀ m, m ∈ spL g s k → m ∈ spL f s k
  | 0, _, m, hm => hm
  | k + 1, hk, m, hm => by
    have ih := h.sp s k (by omega)
    rw [mem_spL_succ] at hm ⊢
    rcases hm with hm | ⟨j, h1, h2, h3⟩
    · exact .inl (ih m hm)
    · rw [h.inn (by omega)] at h1
      rw [h.bef (by omega)] at h2
      refine .inr ⟨j, h1, h2, ?_⟩
      rw [canB_iff] at h3 ⊢
      obtain ⟨i, i1, i2, i3⟩ := h3
      rw [h.inn (by omega)] at i1 i2
      refine ⟨i, i1, ih _ i2, ?_⟩
      rcases h.lots k (by omega) with e | ⟨e, _⟩
      · rw [e] at i3; exact i3
      · exact .inl e
theorem mem_endS {t s : Int} : t ∈ endS f s ↔ t ∈ endsF f ∧ t ∈ spL f s f.lots.length := by
  unfold endS
  rw [List.mem_filter, decide_eq_true_eq]
/-- the way in which nothing is shuffled -/
def idL (x : LotP) : LotP := if x.known = true then x else ⟨x.inn, true, (List.range x.inn.length).map fun n : Nat => (n : Int)⟩
theorem range_plOK (n : Nat) : ((List.range n).map fun n : Nat => (n : Int)).Nodup ∧ ∀ p ∈ (List.range n).map fun n : Nat => (n : Int), 0 ≤ p ∧ p < (n : Int) := by
  refine ⟨List.pairwise_map.2 (List.Pairwise.imp (fun {a b} h e => h (by omega)) (List.nodup_range (n := n))), fun p hp => ?_⟩
  obtain ⟨a, h1, rfl⟩ := List.mem_map.1 hp
  have := List.mem_range.1 h1
  omega
theorem endS_lt (f : FlowP) (s : Int) : (endS f s).Pairwise (· < ·) := (endsF_lt f).sublist List.filter_sublist
end
end Go.Proofs.Ytnlaiaklafjamaa


namespace Go.Proofs.Ytnlaiaklafjamaa
set_option linter.unusedSimpArgs false
set_option linter.unusedVariables false
open Go.RowKit
theorem sp_take (f : FlowP) (m : Nat) (s : Int) : ∀ k, k ≤ m → spL (takeF f m) s k = spL f s k
  | 0, _ => rfl
  | k + 1, h => by
    rw [spL, spL, sp_take f m s k (by omega), take_bef (by omega), take_at (by omega)]
section
variable {f : FlowP} {x : LotP}
/-- where an end goes by a further lot -/
def phi (b : Int) (x : LotP) (t : Int) : Int := stepF b (idL x) t
theorem idL_inn (x : LotP) : (idL x).inn = x.inn := by unfold idL; split <;> rfl
theorem idL_pl {bef : Int} {gone : List Int} (hg : GoodL bef gone x) : plOK (idL x) := by
  unfold idL
  split
  · rename_i h; exact hg.pl h
  · have := range_plOK x.inn.length
    exact ⟨by simp, this.1, this.2⟩
theorem more_sp (f : FlowP) (x : LotP) (s : Int) {m : Int} : m ∈ spL (moreF f x) s (f.lots.length + 1) ↔ m ∈ spL f s f.lots.length ∨ ∃ j : Nat, j < x.inn.length ∧ m = befF f f.lots.length + j ∧ canB x (spL f s f.lots.length) j = true := by
  have h1 := sp_take (moreF f x) f.lots.length s f.lots.length (Nat.le_refl _)
  rw [take_more] at h1
  have h2 := take_bef (f := moreF f x) (k := f.lots.length) (i := f.lots.length) (Nat.le_refl _)
  rw [take_more] at h2
  rw [mem_spL_succ, more_at, ← h1, ← h2]
theorem more_end (f : FlowP) (x : LotP) {t : Int} : t ∈ endsF (moreF f x) ↔ 0 ≤ t ∧ t < befF f f.lots.length + (x.inn.length : Int) ∧ t ∉ goneF f f.lots.length ∧ t ∉ x.inn := by
  have h2 := take_bef (f := moreF f x) (k := f.lots.length) (i := f.lots.length) (Nat.le_refl _)
  have h3 := take_gone (f := moreF f x) (k := f.lots.length) (i := f.lots.length) (Nat.le_refl _)
  rw [take_more] at h2 h3
  rw [mem_endsF, more_len, befF_succ (by rw [more_len]; omega), goneF_succ (by rw [more_len]; omega), more_at, ← h2, ← h3, List.mem_append, not_or]
theorem more_good (hc : checkF (moreF f x) = 0) : GoodL (befF f f.lots.length) (goneF f f.lots.length) x := by
  have h2 := take_bef (f := moreF f x) (k := f.lots.length) (i := f.lots.length) (Nat.le_refl _)
  have h3 := take_gone (f := moreF f x) (k := f.lots.length) (i := f.lots.length) (Nat.le_refl _)
  rw [take_more] at h2 h3
  have := goodL_at hc (k := f.lots.length) (by rw [more_len]; omega)
  rwa [more_at, ← h2, ← h3] at this
theorem idx_at {l : List Int} (hn : l.Nodup) {i : Nat} (h : i < l.length) : l.idxOf (l.getD i 0) = i := by
  obtain ⟨j1, j2⟩ := idx_get (getD_mem h)
  exact getD_inj hn j1 h j2
theorem phi_in {b : Int} {t : Int} (h : t ∈ x.inn) : phi b x t = b + (idL x).perm.getD (x.inn.idxOf t) 0 := by
  unfold phi stepF
  rw [idL_inn, if_pos h]
theorem phi_out {b : Int} {t : Int} (h : t ∉ x.inn) : phi b x t = t := by
  unfold phi stepF
  rw [idL_inn, if_neg h]
theorem pl_at (hp : plOK (idL x)) {t : Int} (h : t ∈ x.inn) : 0 ≤ (idL x).perm.getD (x.inn.idxOf t) 0 ∧ (idL x).perm.getD (x.inn.idxOf t) 0 < (x.inn.length : Int) := by
  obtain ⟨i1, _⟩ := idx_get h
  have := hp.2.2 _ (getD_mem (show x.inn.idxOf t < (idL x).perm.length by rw [hp.1, idL_inn]; exact i1))
  rwa [idL_inn] at this
theorem phi_inj (hc : checkF (moreF f x) = 0) {t u : Int} (ht : t ∈ endsF f) (hu : u ∈ endsF f) (h : phi (befF f f.lots.length) x t = phi (befF f f.lots.length) x u) : t = u := by
  have hp := idL_pl (more_good hc)
  have t1 := mem_endsF.1 ht
  have u1 := mem_endsF.1 hu
  by_cases e1 : t ∈ x.inn <;> by_cases e2 : u ∈ x.inn
  · rw [phi_in e1, phi_in e2] at h
    obtain ⟨i1, i2⟩ := idx_get e1
    obtain ⟨j1, j2⟩ := idx_get e2
    have := getD_inj hp.2.1 (by rw [hp.1, idL_inn]; exact i1) (by rw [hp.1, idL_inn]; exact j1) (by omega : (idL x).perm.getD (x.inn.idxOf t) 0 = (idL x).perm.getD (x.inn.idxOf u) 0)
    rw [← i2, ← j2, this]
  · have := pl_at hp e1
    rw [phi_in e1, phi_out e2] at h; omega
  · have := pl_at hp e2
    rw [phi_in e2, phi_out e1] at h; omega
  · rwa [phi_out e1, phi_out e2] at h
theorem phi_end (hc : checkF (moreF f x) = 0) {s t : Int} (h : t ∈ endS f s) : phi (befF f f.lots.length) x t ∈ endS (moreF f x) s := by
  have hg := more_good hc
  have hp := idL_pl hg
  obtain ⟨h1, h2⟩ := mem_endS.1 h
  have h1 := mem_endsF.1 h1
  rw [mem_endS, more_end, more_len, more_sp]
  by_cases e : t ∈ x.inn
  · have hb := pl_at hp e
    obtain ⟨i1, i2⟩ := idx_get e
    rw [phi_in e]
    have hlow : ∀ u, 0 ≤ u → u < befF f f.lots.length → befF f f.lots.length + (idL x).perm.getD (x.inn.idxOf t) 0 ≠ u := fun u _ _ => by omega
    refine ⟨⟨by omega, by omega, fun hm => ?_, fun hm => ?_⟩, .inr ⟨((idL x).perm.getD (x.inn.idxOf t) 0).toNat, by omega, by omega, ?_⟩⟩
    · have hc1 := more_check hc
      have := gone_lt hc1 (k := f.lots.length) (Nat.le_refl _) _ hm
      omega
    · have := hg.fr _ hm
      omega
    · refine canB_iff.2 ⟨_, i1, by rw [i2]; exact h2, ?_⟩
      by_cases hk : x.known = true
      · rw [idL, if_pos hk] at hb ⊢
        exact .inr (by omega)
      · exact .inl (by simpa using hk)
  · rw [phi_out e]
    exact ⟨⟨h1.1, by omega, h1.2.2, e⟩, .inl h2⟩
theorem end_phi (hc : checkF (moreF f x) = 0) (hk : x.known = true) {s : Nat} (hs : (s : Int) < f.senders) {u : Int} (h : u ∈ endS (moreF f x) s) : ∃ t, t ∈ endS f s ∧ phi (befF f f.lots.length) x t = u := by
  have hg := more_good hc
  have hp := idL_pl hg
  have hc1 := more_check hc
  rw [mem_endS, more_end, more_len, more_sp] at h
  obtain ⟨⟨h1, h2, h3, h4⟩, h5⟩ := h
  rcases h5 with h5 | ⟨j, j1, j2, j3⟩
  · have hb := (spW_set hc1 hs f.lots.length (Nat.le_refl _)).2 u h5
    exact ⟨u, mem_endS.2 ⟨mem_endsF.2 ⟨h1, hb.2, h3⟩, h5⟩, phi_out h4⟩
  · obtain ⟨i, i1, i2, i3⟩ := canB_iff.1 j3
    have i3 := i3.resolve_left (by rw [hk]; simp)
    have hm := getD_mem i1
    have hfr := hg.fr _ hm
    refine ⟨_, mem_endS.2 ⟨mem_endsF.2 ⟨hfr.1, hfr.2.1, hfr.2.2⟩, i2⟩, ?_⟩
    rw [phi_in hm, idx_at hg.nd i1, idL, if_pos hk, i3, j2]
theorem map_nodup {l : List Int} {p : Int → Int} (h : l.Nodup) (hp : ∀ a ∈ l, ∀ b ∈ l, p a = p b → a = b) : (l.map p).Nodup := by
  induction l with
  | nil => simp
  | cons a l ih =>
    rw [List.nodup_cons] at h
    rw [List.map_cons, List.nodup_cons]
    refine ⟨fun hm => ?_, ih h.2 fun a ha b hb => hp a (List.mem_cons_of_mem _ ha) b (List.mem_cons_of_mem _ hb)⟩
    obtain ⟨b, hb, e⟩ := List.mem_map.1 hm
    have := hp b (List.mem_cons_of_mem _ hb) a (by simp) e
    subst this
    exact h.1 hb
theorem endS_nd (f : FlowP) (s : Int) : (endS f s).Nodup := List.Pairwise.imp (fun {a b} h => by omega) (endS_lt f s)
theorem grows (hc : checkF (moreF f x) = 0) {s : Nat} (hs : (s : Int) < f.senders) : (endS f s).length ≤ (endS (moreF f x) s).length ∧ (x.known = true → (endS (moreF f x) s).length = (endS f s).length) := by
  have hnd : ((endS f s).map (phi (befF f f.lots.length) x)).Nodup := map_nodup (endS_nd f s) fun a ha b hb => phi_inj hc (mem_endS.1 ha).1 (mem_endS.1 hb).1
  have h1 : (endS f s).length ≤ (endS (moreF f x) s).length := by
    have := hnd.length_le_of_subset (l₂ := endS (moreF f x) s) fun u hu => by
      obtain ⟨t, ht, rfl⟩ := List.mem_map.1 hu
      exact phi_end hc ht
    rwa [List.length_map] at this
  refine ⟨h1, fun hk => ?_⟩
  have := (endS_nd (moreF f x) s).length_le_of_subset (l₂ := (endS f s).map (phi (befF f f.lots.length) x)) fun u hu => by
    obtain ⟨t, ht, e⟩ := end_phi hc hk hs hu
    exact List.mem_map.2 ⟨t, ht, e⟩
  rw [List.length_map] at this
  omega
end
end Go.Proofs.Ytnlaiaklafjamaa


namespace Go.Proofs.Ytnlaiaklafjamaa
set_option linter.unusedSimpArgs false
set_option linter.unusedVariables false
open Go.RowKit
theorem lt_ext : ∀ {l m : List Int}, l.Pairwise (· < ·) → m.Pairwise (· < ·) → (∀ t, t ∈ l ↔ t ∈ m) → l = m
  | [], [], _, _, _ => rfl
  | [], b :: m, _, _, h => by have := (h b).2 (by simp); cases this
  | a :: l, [], _, _, h => by have := (h a).1 (by simp); cases this
  | a :: l, b :: m, hl, hm, h => by
    rw [List.pairwise_cons] at hl hm
    have e : a = b := by
      have h1 := (h a).1 (by simp)
      have h2 := (h b).2 (by simp)
      rcases List.mem_cons.1 h1 with h1 | h1
      · exact h1
      · rcases List.mem_cons.1 h2 with h2 | h2
        · exact h2.symm
        · have := hm.1 a h1
          have := hl.1 b h2
          omega
    subst e
    rw [lt_ext hl.2 hm.2 fun t => ?_]
    constructor
    · intro ht
      have h1 := (h t).1 (List.mem_cons_of_mem _ ht)
      rcases List.mem_cons.1 h1 with h1 | h1
      · have := hl.1 t ht; omega
      · exact h1
    · intro ht
      have h1 := (h t).2 (List.mem_cons_of_mem _ ht)
      rcases List.mem_cons.1 h1 with h1 | h1
      · have := hm.1 t ht; omega
      · exact h1
/-- ends behind a lot -/
def rowN (x : LotP) (n : Int) (ends : List Int) : List Int := (ends.filter fun t => !decide (t ∈ x.inn)) ++ outL x n ends x.inn.length
def someM (x : LotP) (ends : List Int) : Bool := ends.any fun t => decide (t ∈ x.inn)
theorem outL_lt (x : LotP) (n : Int) (sp : List Int) (k : Nat) : (outL x n sp k).Pairwise (· < ·) := by
  unfold outL
  rw [List.pairwise_map]
  exact (List.Pairwise.sublist List.filter_sublist (range_lt k)).imp fun h => by omega
theorem canB_none {x : LotP} {sp : List Int} (h : ∀ i, i < x.inn.length → x.inn.getD i 0 ∉ sp) (j : Nat) : canB x sp j = false := by
  cases hb : canB x sp j with
  | false => rfl
  | true =>
    obtain ⟨i, h1, h2, _⟩ := canB_iff.1 hb
    exact (h i h1 h2).elim
theorem outL_none {x : LotP} {n : Int} {sp : List Int} {k : Nat} (h : ∀ i, i < x.inn.length → x.inn.getD i 0 ∉ sp) : outL x n sp k = [] := by
  unfold outL
  rw [List.filter_eq_nil_iff.2 fun j _ => by rw [canB_none h]; simp]
  rfl
theorem someM_false {x : LotP} {ends : List Int} (h : someM x ends = false) : ∀ i, i < x.inn.length → x.inn.getD i 0 ∉ ends := fun i hi hm => by
  unfold someM at h
  rw [List.any_eq_false] at h
  exact h _ hm (decide_eq_true (getD_mem hi))
theorem rowN_none {x : LotP} {n : Int} {ends : List Int} (h : someM x ends = false) : rowN x n ends = ends := by
  unfold rowN
  rw [outL_none (someM_false h), List.append_nil]
  refine List.filter_eq_self.2 fun t ht => ?_
  unfold someM at h
  rw [List.any_eq_false] at h
  simpa using h t ht
section
variable {f : FlowP} {x : LotP}
theorem endS_more (hc : checkF (moreF f x) = 0) {s : Nat} (hs : (s : Int) < f.senders) : endS (moreF f x) s = rowN x (befF f f.lots.length) (endS f s) := by
  have hc1 := more_check hc
  have hg := more_good hc
  have hmemE : ∀ t ∈ x.inn, (t ∈ endS f s ↔ t ∈ spL f s f.lots.length) := fun t ht => by
    have h1 := hg.fr t ht
    rw [mem_endS]
    exact ⟨fun h => h.2, fun h => ⟨mem_endsF.2 ⟨h1.1, h1.2.1, h1.2.2⟩, h⟩⟩
  have hcan : ∀ j, canB x (endS f s) j = canB x (spL f s f.lots.length) j := fun j => by
    rw [Bool.eq_iff_iff, canB_iff, canB_iff]
    exact ⟨fun ⟨i, h1, h2, h3⟩ => ⟨i, h1, (hmemE _ (getD_mem h1)).1 h2, h3⟩, fun ⟨i, h1, h2, h3⟩ => ⟨i, h1, (hmemE _ (getD_mem h1)).2 h2, h3⟩⟩
  refine lt_ext (endS_lt _ _) ?_ fun t => ?_
  · unfold rowN
    rw [List.pairwise_append]
    refine ⟨List.Pairwise.sublist List.filter_sublist (endS_lt _ _), outL_lt _ _ _ _, fun a ha b hb => ?_⟩
    have h1 := (mem_endsF.1 (mem_endS.1 (List.mem_filter.1 ha).1).1).2.1
    obtain ⟨j, _, e, _⟩ := mem_outL.1 hb
    omega
  · unfold rowN
    rw [mem_endS, more_end, more_len, more_sp, List.mem_append, List.mem_filter, mem_outL, mem_endS, mem_endsF]
    constructor
    · rintro ⟨⟨h1, h2, h3, h4⟩, h5⟩
      rcases h5 with h5 | ⟨j, j1, j2, j3⟩
      · have hb := (spW_set hc1 hs f.lots.length (Nat.le_refl _)).2 t h5
        exact .inl ⟨⟨⟨h1, hb.2, h3⟩, h5⟩, by simpa using h4⟩
      · exact .inr ⟨j, j1, j2, by rw [hcan]; exact j3⟩
    · rintro (⟨⟨⟨h1, h2, h3⟩, h4⟩, h5⟩ | ⟨j, j1, j2, j3⟩)
      · exact ⟨⟨h1, by omega, h3, by simpa using h5⟩, .inl h4⟩
      · have hbef := befF_mono (f := f) (Nat.le_refl f.lots.length)
        obtain ⟨z1, z2, z3, z4, _⟩ := checkF_zero hc1
        refine ⟨⟨by omega, by omega, fun hm => ?_, fun hm => ?_⟩, .inr ⟨j, j1, j2, by rw [← hcan]; exact j3⟩⟩
        · have := gone_lt hc1 (k := f.lots.length) (Nat.le_refl _) _ hm
          omega
        · have := hg.fr _ hm
          omega
theorem more_small (hc : checkF (moreF f x) = 0) : befF f f.lots.length + (x.inn.length : Int) ≤ 50000 := by
  obtain ⟨_, _, z3, _, _⟩ := checkF_zero hc
  rw [more_len] at z3
  have hb := befF_succ (f := moreF f x) (k := f.lots.length) (by rw [more_len]; omega)
  have h2 := take_bef (f := moreF f x) (k := f.lots.length) (i := f.lots.length) (Nat.le_refl _)
  rw [take_more] at h2
  rw [more_at, ← h2] at hb
  omega
/-- the senders that change -/
def chgL (f : FlowP) (x : LotP) (k : Nat) : List Int := ((List.range k).filter fun s : Nat => someM x (endS f s)).map fun s : Nat => (s : Int)
theorem chgL_succ (f : FlowP) (x : LotP) (k : Nat) : chgL f x (k + 1) = if someM x (endS f k) = true then chgL f x k ++ [(k : Int)] else chgL f x k := by
  unfold chgL
  rw [List.range_succ, List.filter_append, List.map_append]
  by_cases h : someM x (endS f k) = true <;> simp [h]
theorem chgL_len (f : FlowP) (x : LotP) (k : Nat) : (chgL f x k).length ≤ k := by
  unfold chgL
  rw [List.length_map]
  exact Nat.le_trans (List.length_filter_le _ _) (by simp)
theorem mem_chgL {k : Nat} {t : Int} : t ∈ chgL f x k ↔ ∃ s : Nat, s < k ∧ t = s ∧ someM x (endS f s) = true := by
  unfold chgL
  rw [List.mem_map]
  constructor
  · rintro ⟨n, hn, rfl⟩
    rw [List.mem_filter, List.mem_range] at hn
    exact ⟨n, hn.1, rfl, hn.2⟩
  · rintro ⟨n, h1, rfl, h2⟩
    exact ⟨n, List.mem_filter.2 ⟨List.mem_range.2 h1, h2⟩, rfl⟩
/-- the rows while the lot is added -/
def mixA (f : FlowP) (x : LotP) (N k : Nat) : List (List Int) := (List.range N).map fun s : Nat => if s < k then endS (moreF f x) s else endS f s
theorem mixA_len (f : FlowP) (x : LotP) (N k : Nat) : (mixA f x N k).length = N := by simp [mixA]
theorem mixA_zero (f : FlowP) (x : LotP) (N : Nat) : matA f N = mixA f x N 0 := by
  unfold matA mixA
  exact List.map_congr_left fun s _ => by rw [if_neg (by omega)]
theorem mixA_all (f : FlowP) (x : LotP) (N : Nat) : mixA f x N N = matA (moreF f x) N := by
  unfold matA mixA
  exact List.map_congr_left fun s hs => by rw [if_pos (by simpa using hs)]
theorem mixA_set {N k : Nat} : (mixA f x N k).set k (endS (moreF f x) k) = mixA f x N (k + 1) := by
  refine List.ext_getElem? fun i => ?_
  unfold mixA
  by_cases hi : i = k
  · subst hi
    by_cases hk : i < N
    · rw [List.getElem?_set_self (by simpa using hk), List.getElem?_map, List.getElem?_range hk, Option.map_some, if_pos (by omega)]
    · rw [List.getElem?_eq_none (by simpa using hk), List.getElem?_eq_none (by simpa using hk)]
  · rw [List.getElem?_set_ne (Ne.symm hi), List.getElem?_map, List.getElem?_map]
    by_cases hn : i < N
    · rw [List.getElem?_range hn, Option.map_some, Option.map_some]
      congr 1
      by_cases h : i < k
      · rw [if_pos h, if_pos (by omega)]
      · rw [if_neg h, if_neg (by omega)]
    · rw [List.getElem?_eq_none (by simpa using hn)]; rfl
theorem mixA_skip {N k : Nat} (hk : k < N) (h : endS (moreF f x) k = endS f k) : mixA f x N k = mixA f x N (k + 1) := by
  unfold mixA
  refine List.map_congr_left fun s hs => ?_
  by_cases h1 : s < k
  · rw [if_pos h1, if_pos (by omega)]
  · by_cases h2 : s = k
    · subst h2; rw [if_neg h1, if_pos (by omega), h]
    · rw [if_neg h1, if_neg (by omega)]
end
/-- the outs that are reached, as the code marks them -/
def outJ (x : LotP) (ends : List Int) (j : Nat) : List Bool := (List.range x.inn.length).map (canB x (ends.take j))
theorem outJ_len (x : LotP) (ends : List Int) (j : Nat) : (outJ x ends j).length = x.inn.length := by simp [outJ]
theorem outJ_zero (x : LotP) (ends : List Int) : List.replicate x.inn.length false = outJ x ends 0 := by
  unfold outJ
  rw [List.take_zero]
  refine (List.eq_replicate_iff.2 ⟨by rw [List.length_map, List.length_range], fun b hb => ?_⟩).symm
  obtain ⟨k, _, rfl⟩ := List.mem_map.1 hb
  exact canB_none (fun i _ h => by cases h) k
theorem take_mem {l : List Int} {j : Nat} (h : j < l.length) {t : Int} : t ∈ l.take (j + 1) ↔ t ∈ l.take j ∨ t = l.getD j 0 := by
  rw [List.take_succ_eq_append_getElem h, List.mem_append, List.mem_singleton]
  have : l.getD j 0 = l[j] := by simp [List.getD, h]
  rw [this]
/-- an end that goes into no spot of the lot -/
theorem outJ_not {x : LotP} {ends : List Int} {j : Nat} (hj : j < ends.length) (h : ends.getD j 0 ∉ x.inn) : outJ x ends (j + 1) = outJ x ends j := by
  unfold outJ
  refine List.map_congr_left fun k _ => ?_
  rw [Bool.eq_iff_iff, canB_iff, canB_iff]
  refine exists_congr fun i => and_congr_right fun hi => and_congr_left fun _ => ?_
  rw [take_mem hj]
  refine ⟨fun h1 => h1.resolve_right fun e => h ?_, Or.inl⟩
  rw [← e]; exact getD_mem hi
/-- .. of a known lot -/
theorem outJ_known {x : LotP} {ends : List Int} {j i : Nat} (hj : j < ends.length) (hk : x.known = true) (hn : x.inn.Nodup) (hi : i < x.inn.length) (he : ends.getD j 0 = x.inn.getD i 0) (hp : 0 ≤ x.perm.getD i 0) :
    (outJ x ends j).set (x.perm.getD i 0).toNat true = outJ x ends (j + 1) := by
  refine List.ext_getElem? fun k => ?_
  have step : ∀ k : Nat, canB x (ends.take (j + 1)) k = (canB x (ends.take j) k || decide ((k : Int) = x.perm.getD i 0)) := fun k => by
    rw [Bool.eq_iff_iff, Bool.or_eq_true, canB_iff, canB_iff, decide_eq_true_eq]
    constructor
    · rintro ⟨i', h1, h2, h3⟩
      rcases (take_mem hj).1 h2 with h2 | h2
      · exact .inl ⟨i', h1, h2, h3⟩
      · have : i' = i := getD_inj hn h1 hi (h2.trans he)
        subst this
        exact .inr (h3.resolve_left (by rw [hk]; simp)).symm
    · rintro (⟨i', h1, h2, h3⟩ | h)
      · exact ⟨i', h1, (take_mem hj).2 (.inl h2), h3⟩
      · exact ⟨i, hi, (take_mem hj).2 (.inr he.symm), .inr h.symm⟩
  unfold outJ
  by_cases hkk : k = (x.perm.getD i 0).toNat
  · subst hkk
    by_cases hl : (x.perm.getD i 0).toNat < x.inn.length
    · rw [List.getElem?_set_self (by simpa using hl), List.getElem?_map, List.getElem?_range hl, Option.map_some, step, decide_eq_true (by omega), Bool.or_true]
    · rw [List.getElem?_eq_none (by simpa using hl), List.getElem?_eq_none (by simpa using hl)]
  · rw [List.getElem?_set_ne (fun e => hkk e.symm), List.getElem?_map, List.getElem?_map]
    by_cases hl : k < x.inn.length
    · rw [List.getElem?_range hl, Option.map_some, Option.map_some, step, decide_eq_false (by omega), Bool.or_false]
    · rw [List.getElem?_eq_none (by simpa using hl)]; rfl
/-- .. of an unknown lot -/
theorem outJ_unk {x : LotP} {ends : List Int} {j i : Nat} (hj : j < ends.length) (hk : x.known = false) (hi : i < x.inn.length) (he : ends.getD j 0 = x.inn.getD i 0) : outJ x ends (j + 1) = List.replicate x.inn.length true := by
  unfold outJ
  rw [List.eq_replicate_iff]
  refine ⟨by simp, fun b hb => ?_⟩
  obtain ⟨k, _, rfl⟩ := List.mem_map.1 hb
  exact canB_iff.2 ⟨i, hi, (take_mem hj).2 (.inr he.symm), .inl hk⟩
theorem outJ_get {x : LotP} {ends : List Int} {k : Nat} (hk : k < x.inn.length) : (outJ x ends ends.length).getD k false = canB x ends k := by
  unfold outJ
  rw [List.getD, List.getElem?_map, List.getElem?_range hk, List.take_length]; rfl
/-- the first k set -/
def setT' (o : List Bool) (k : Nat) : List Bool := List.replicate k true ++ o.drop k
theorem setT_succ {o : List Bool} {k : Nat} (h : k < o.length) : (setT' o k).set k true = setT' o (k + 1) := by
  unfold setT'
  rw [List.set_append_right _ _ (by simp), List.length_replicate, Nat.sub_self, List.replicate_succ', List.append_assoc]
  congr 1
  rw [List.drop_eq_getElem_cons h]
  rfl
theorem setT_len {o : List Bool} {k : Nat} (h : k ≤ o.length) : (setT' o k).length = o.length := by
  unfold setT'
  rw [List.length_append, List.length_replicate, List.length_drop]; omega
theorem setT_all (o : List Bool) : setT' o o.length = List.replicate o.length true := by simp [setT']
theorem someM_take {x : LotP} {ends : List Int} {j : Nat} (hj : j < ends.length) : someM x (ends.take (j + 1)) = (someM x (ends.take j) || decide (ends.getD j 0 ∈ x.inn)) := by
  unfold someM
  rw [List.take_succ_eq_append_getElem hj, List.any_append]
  have : ends.getD j 0 = ends[j] := by simp [List.getD, hj]
  rw [this]
  simp
def keepJ (x : LotP) (ends : List Int) (j : Nat) : List Int := (ends.take j).filter fun t => !decide (t ∈ x.inn)
theorem keepJ_succ {x : LotP} {ends : List Int} {j : Nat} (hj : j < ends.length) : keepJ x ends (j + 1) = if ends.getD j 0 ∈ x.inn then keepJ x ends j else keepJ x ends j ++ [ends.getD j 0] := by
  unfold keepJ
  have : ends.getD j 0 = ends[j] := by simp [List.getD, hj]
  rw [List.take_succ_eq_append_getElem hj, List.filter_append, this]
  by_cases h : ends[j] ∈ x.inn
  · rw [if_pos h]; simp [h]
  · rw [if_neg h]; simp [h]
theorem keepJ_len (x : LotP) (ends : List Int) (j : Nat) : (keepJ x ends j).length ≤ ends.length := by
  unfold keepJ
  refine Nat.le_trans (List.length_filter_le _ _) ?_
  rw [List.length_take]; omega
theorem keepJ_all (x : LotP) (ends : List Int) : keepJ x ends ends.length = ends.filter fun t => !decide (t ∈ x.inn) := by
  unfold keepJ
  rw [List.take_length]
end Go.Proofs.Ytnlaiaklafjamaa


namespace Go.Proofs.Ytnlaiaklafjamaa
set_option linter.unusedSimpArgs false
set_option linter.unusedVariables false
open Go.RowKit
set_option maxRecDepth 100000
set_option maxHeartbeats 4000000
def idxP (p : Nat → Bool) (n : Nat) : Int := match (List.range n).find? p with
  | some i => i
  | none => -1
theorem idxP_hit {p : Nat → Bool} {n k : Nat} (hk : k < n) (h : p k = true) (h0 : ∀ i, i < k → p i = false) : idxP p n = k := by
  have : (List.range n).find? p = some k := by
    rw [List.find?_range_eq_some]
    exact ⟨h, by simpa using hk, fun j hj => by rw [h0 j hj]; rfl⟩
  rw [idxP, this]
theorem idxP_miss {p : Nat → Bool} {n : Nat} (h0 : ∀ i, i < n → p i = false) : idxP p n = -1 := by
  have : (List.range n).find? p = none := by
    rw [List.find?_eq_none]
    intro i hi
    rw [h0 i (by simpa using hi)]; simp
  rw [idxP, this]
theorem idxP_any (p : Nat → Bool) (n : Nat) : decide (idxP p n ≥ 0) = (List.range n).any p := by
  unfold idxP
  cases h : (List.range n).find? p with
  | some i =>
    rw [decide_eq_true (by show (i : Int) ≥ 0; omega)]
    have := List.find?_some h
    have hm := List.mem_of_find?_eq_some h
    exact (List.any_eq_true.2 ⟨i, hm, this⟩).symm
  | none =>
    rw [decide_eq_false (by show ¬ (-1 : Int) ≥ 0; omega)]
    rw [List.find?_eq_none] at h
    exact (List.any_eq_false.2 h).symm
theorem mem_getD {α : Type} {l : List α} {d : α} {k : Nat} (h : k < l.length) : l.getD k d ∈ l := by
  rw [List.getD, List.getElem?_eq_getElem h]; simp
theorem any_getD {α : Type} (l : List α) (d : α) (p : α → Bool) : ((List.range l.length).any fun k => p (l.getD k d)) = l.any p := by
  rw [Bool.eq_iff_iff, List.any_eq_true, List.any_eq_true]
  constructor
  · rintro ⟨i, hi, h⟩
    have hi : i < l.length := by simpa using hi
    have e : l.getD i d = l[i] := by simp [List.getD, hi]
    rw [e] at h
    exact ⟨_, List.getElem_mem hi, h⟩
  · rintro ⟨x, hx, h⟩
    obtain ⟨i, hi, rfl⟩ := List.getElem_of_mem hx
    refine ⟨i, by simpa using hi, ?_⟩
    have e : l.getD i d = l[i] := by simp [List.getD, hi]
    rw [e]; exact h
theorem ints_index (l : List Int) (p : Int → Bool) (hl : l.length ≤ 140737488351232) : Spec Try.prog 61 [aIs l, .one (.x (FnR Try.prog (FnM aI p l)))] (.r1 (aI (idxP (fun k => p (l.getD k 0)) l.length))) := by
  refine spec_of T_ok Try.func61 (by dsimp only [Try.f61]) rfl rfl (by simp) fun w F => ?_
  obtain ⟨Pk, hPk⟩ : ∃ Pk : Nat → Bool, Pk = (fun k => p (l.getD k 0)) := ⟨_, rfl⟩
  rw [← hPk]
  repeat' (first
    | (with_reducible refine aw_seq ?_)
    | ((with_reducible refine twoG_intro ?_ ?_) <;> intro hTw <;> first | (exact Bool.noConfusion hTw) | ((try simp only [hTw, Bool.not_true, Bool.not_false, Bool.true_and, Bool.false_and, Bool.and_true, Bool.and_false, Bool.true_or, Bool.false_or, Bool.or_true, Bool.or_false]); (first | (guard_hyp hTw : true = true; clear hTw) | (guard_hyp hTw : false = false; clear hTw) | (revert hTw; intro _))))
    | ((with_reducible refine two_intro ?_ ?_) <;> intro hTw <;> first | (exact Bool.noConfusion hTw) | ((first | (guard_hyp hTw : true = true; clear hTw) | (guard_hyp hTw : false = false; clear hTw) | (revert hTw; intro _))))
    | ((with_reducible refine And.intro ?_ ?_); (focus (first | omega | rfl | decide | grind)))
    | (with_reducible refine aw_block ?_)
    | (with_reducible refine aw_scope ?_)
    | ((first
        | ((with_reducible refine aw_regionA T_ok ?_ ?_); (focus kernel_rfl))
        | ((with_reducible refine aw_drawnA T_ok ?_ ?_ ?_ ?_); (focus kernel_rfl); (focus kernel_rfl); (focus (decide +kernel)))
        | ((with_reducible refine aw_drawnF T_ok ?_ ?_ ?_ ?_); (focus kernel_rfl); (focus kernel_rfl); (focus (decide +kernel)))
        | (with_reducible refine aw_label ?_)
        | ((with_reducible refine aw_rfM ?_ ?_); (focus kernel_rfl))
        | (with_reducible refine aw_skip ?_)
        | (with_reducible refine aw_exit ?_)
        | ((with_reducible refine aw_condM ?_ ?_); (focus kernel_rfl))
        | (with_reducible refine aw_ret ?_)
      ); simp only [↓avP, avQ, if_true, if_false, forall_const, beq_self_eq_true, eq_self, ne_eq, implies_true, reduceIte, Nat.reduceEqDiff, Nat.reduceAdd, Nat.reduceSub, Int.reduceToNat, Nat.reduceLeDiff, Nat.reduceLT, reduceCtorEq, Int.reduceEq, retQ, retL, resV, RetV, RetOk, SubL, intD_B, lotD_B, snocI, ty_3, ty_28, ty_4, ty_30, ty_22, ty_25, issD_get]; try simp (disch := omega) only [av_w, av_t1, av_tp, Int.toNat_natCast]))
  refine aw_loopI (fun k : Nat => ⟨[(0, vIs l), (1, .d (.x (FnR Try.prog (FnM aI p l)))), (7, vI l.length), (8, vI k)], [], 0⟩) (fun k => k ≤ l.length ∧ ∀ i, i < k → Pk i = false) (fun k => l.length - k) 0 ⟨Nat.zero_le _, fun i hi => absurd hi (Nat.not_lt_zero i)⟩ (wk_of [] rfl rfl ?_ ?_) ?_
  · simp only [wkT, wkB, wkB1, subV, subVs, subD, subB, lkN_n, lkN_c, lkT_n, lkT_c, lkB_n, lkB_c, if_true, if_false, reduceIte, Nat.reduceEqDiff, true_and, and_true, and_self, inT, ofA]
    (repeat' (first | exact trivial | rfl | exact rfl | exact subVs_d _ _ | exact subVs_dm _ _ | exact subD_refl _ | refine And.intro ?_ ?_))
  · simp only [wkT, wkB, wkB1, subV, subVs, subD, subB, lkN_n, lkN_c, lkT_n, lkT_c, lkB_n, lkB_c, if_true, if_false, reduceIte, Nat.reduceEqDiff, true_and, and_true, and_self, inT, ofA]
  rintro k ⟨hk, h0⟩
  rcases Nat.lt_or_ge k l.length with hlt | hge
  · have hd := ltd hlt
    cases hp : p (l.getD k 0) with
    | false =>
      repeat' (first
        | (with_reducible refine aw_seq ?_)
        | ((with_reducible refine twoG_intro ?_ ?_) <;> intro hTw <;> first | (exact Bool.noConfusion hTw) | ((try simp only [hTw, Bool.not_true, Bool.not_false, Bool.true_and, Bool.false_and, Bool.and_true, Bool.and_false, Bool.true_or, Bool.false_or, Bool.or_true, Bool.or_false]); (first | (guard_hyp hTw : true = true; clear hTw) | (guard_hyp hTw : false = false; clear hTw) | (revert hTw; intro _))))
        | ((with_reducible refine two_intro ?_ ?_) <;> intro hTw <;> first | (exact Bool.noConfusion hTw) | ((first | (guard_hyp hTw : true = true; clear hTw) | (guard_hyp hTw : false = false; clear hTw) | (revert hTw; intro _))))
        | ((with_reducible refine And.intro ?_ ?_); (focus (first | omega | rfl | decide | grind)))
        | (with_reducible refine aw_block ?_)
        | (with_reducible refine aw_scope ?_)
        | ((first
            | ((with_reducible refine aw_regionA T_ok ?_ ?_); (focus kernel_rfl))
            | ((with_reducible refine aw_drawnA T_ok ?_ ?_ ?_ ?_); (focus kernel_rfl); (focus kernel_rfl); (focus (decide +kernel)))
            | ((with_reducible refine aw_drawnF T_ok ?_ ?_ ?_ ?_); (focus kernel_rfl); (focus kernel_rfl); (focus (decide +kernel)))
            | ((with_reducible refine slotX_M ((l.getD k 0)) ((mem_getD hlt)) (by with_unfolding_all rfl) ?_ ?_); (focus kernel_rfl))
            | (with_reducible refine aw_label ?_)
            | ((with_reducible refine aw_rfM ?_ ?_); (focus kernel_rfl))
            | (with_reducible refine aw_skip ?_)
            | (with_reducible refine aw_exit ?_)
            | ((with_reducible refine aw_condM ?_ ?_); (focus kernel_rfl))
            | (with_reducible refine aw_ret ?_)
          ); simp only [↓avP, avQ, if_true, if_false, forall_const, beq_self_eq_true, eq_self, ne_eq, implies_true, reduceIte, Nat.reduceEqDiff, Nat.reduceAdd, Nat.reduceSub, Int.reduceToNat, Nat.reduceLeDiff, Nat.reduceLT, reduceCtorEq, Int.reduceEq, retQ, retL, resV, RetV, RetOk, SubL, intD_B, lotD_B, snocI, ty_3, ty_28, ty_4, ty_30, ty_22, ty_25, issD_get, hd, hp]; try simp (disch := omega) only [av_w, av_t1, av_tp, Int.toNat_natCast]))
      refine ⟨k + 1, ⟨by omega, fun i hi => by rcases Nat.lt_succ_iff_lt_or_eq.1 hi with h | rfl; exact h0 i h; rw [hPk]; exact hp⟩, by dsimp only; omega, wk_of [] rfl rfl ?_ ?_⟩
      · simp only [wkT, wkB, wkB1, subV, subVs, subD, subB, lkN_n, lkN_c, lkT_n, lkT_c, lkB_n, lkB_c, if_true, if_false, reduceIte, Nat.reduceEqDiff, true_and, and_true, and_self, inT, ofA]
        (repeat' (first | exact trivial | rfl | exact rfl | exact subVs_d _ _ | exact subVs_dm _ _ | exact subD_refl _ | refine And.intro ?_ ?_))
      · simp only [wkT, wkB, wkB1, subV, subVs, subD, subB, lkN_n, lkN_c, lkT_n, lkT_c, lkB_n, lkB_c, if_true, if_false, reduceIte, Nat.reduceEqDiff, true_and, and_true, and_self, inT, ofA]
    | true =>
      repeat' (first
        | (with_reducible refine aw_seq ?_)
        | ((with_reducible refine twoG_intro ?_ ?_) <;> intro hTw <;> first | (exact Bool.noConfusion hTw) | ((try simp only [hTw, Bool.not_true, Bool.not_false, Bool.true_and, Bool.false_and, Bool.and_true, Bool.and_false, Bool.true_or, Bool.false_or, Bool.or_true, Bool.or_false]); (first | (guard_hyp hTw : true = true; clear hTw) | (guard_hyp hTw : false = false; clear hTw) | (revert hTw; intro _))))
        | ((with_reducible refine two_intro ?_ ?_) <;> intro hTw <;> first | (exact Bool.noConfusion hTw) | ((first | (guard_hyp hTw : true = true; clear hTw) | (guard_hyp hTw : false = false; clear hTw) | (revert hTw; intro _))))
        | ((with_reducible refine And.intro ?_ ?_); (focus (first | omega | rfl | decide | grind)))
        | (with_reducible refine aw_block ?_)
        | (with_reducible refine aw_scope ?_)
        | ((first
            | ((with_reducible refine aw_regionA T_ok ?_ ?_); (focus kernel_rfl))
            | ((with_reducible refine aw_drawnA T_ok ?_ ?_ ?_ ?_); (focus kernel_rfl); (focus kernel_rfl); (focus (decide +kernel)))
            | ((with_reducible refine aw_drawnF T_ok ?_ ?_ ?_ ?_); (focus kernel_rfl); (focus kernel_rfl); (focus (decide +kernel)))
            | ((with_reducible refine slotX_M ((l.getD k 0)) ((mem_getD hlt)) (by with_unfolding_all rfl) ?_ ?_); (focus kernel_rfl))
            | (with_reducible refine aw_label ?_)
            | ((with_reducible refine aw_rfM ?_ ?_); (focus kernel_rfl))
            | (with_reducible refine aw_skip ?_)
            | (with_reducible refine aw_exit ?_)
            | ((with_reducible refine aw_condM ?_ ?_); (focus kernel_rfl))
            | (with_reducible refine aw_ret ?_)
          ); simp only [↓avP, avQ, if_true, if_false, forall_const, beq_self_eq_true, eq_self, ne_eq, implies_true, reduceIte, Nat.reduceEqDiff, Nat.reduceAdd, Nat.reduceSub, Int.reduceToNat, Nat.reduceLeDiff, Nat.reduceLT, reduceCtorEq, Int.reduceEq, retQ, retL, resV, RetV, RetOk, SubL, intD_B, lotD_B, snocI, ty_3, ty_28, ty_4, ty_30, ty_22, ty_25, issD_get, hd, hp]; try simp (disch := omega) only [av_w, av_t1, av_tp, Int.toNat_natCast]))
      exact Sub.of_eq (congrArg aI (idxP_hit hlt (by rw [hPk]; exact hp) h0).symm)
  · obtain rfl : k = l.length := by omega
    have hd := ged (Nat.le_refl l.length)
    repeat' (first
      | (with_reducible refine aw_seq ?_)
      | ((with_reducible refine twoG_intro ?_ ?_) <;> intro hTw <;> first | (exact Bool.noConfusion hTw) | ((try simp only [hTw, Bool.not_true, Bool.not_false, Bool.true_and, Bool.false_and, Bool.and_true, Bool.and_false, Bool.true_or, Bool.false_or, Bool.or_true, Bool.or_false]); (first | (guard_hyp hTw : true = true; clear hTw) | (guard_hyp hTw : false = false; clear hTw) | (revert hTw; intro _))))
      | ((with_reducible refine two_intro ?_ ?_) <;> intro hTw <;> first | (exact Bool.noConfusion hTw) | ((first | (guard_hyp hTw : true = true; clear hTw) | (guard_hyp hTw : false = false; clear hTw) | (revert hTw; intro _))))
      | ((with_reducible refine And.intro ?_ ?_); (focus (first | omega | rfl | decide | grind)))
      | (with_reducible refine aw_block ?_)
      | (with_reducible refine aw_scope ?_)
      | ((first
          | ((with_reducible refine aw_regionA T_ok ?_ ?_); (focus kernel_rfl))
          | ((with_reducible refine aw_drawnA T_ok ?_ ?_ ?_ ?_); (focus kernel_rfl); (focus kernel_rfl); (focus (decide +kernel)))
          | ((with_reducible refine aw_drawnF T_ok ?_ ?_ ?_ ?_); (focus kernel_rfl); (focus kernel_rfl); (focus (decide +kernel)))
          | (with_reducible refine aw_label ?_)
          | ((with_reducible refine aw_rfM ?_ ?_); (focus kernel_rfl))
          | (with_reducible refine aw_skip ?_)
          | (with_reducible refine aw_exit ?_)
          | ((with_reducible refine aw_condM ?_ ?_); (focus kernel_rfl))
          | (with_reducible refine aw_ret ?_)
        ); simp only [↓avP, avQ, if_true, if_false, forall_const, beq_self_eq_true, eq_self, ne_eq, implies_true, reduceIte, Nat.reduceEqDiff, Nat.reduceAdd, Nat.reduceSub, Int.reduceToNat, Nat.reduceLeDiff, Nat.reduceLT, reduceCtorEq, Int.reduceEq, retQ, retL, resV, RetV, RetOk, SubL, intD_B, lotD_B, snocI, ty_3, ty_28, ty_4, ty_30, ty_22, ty_25, issD_get, hd]; try simp (disch := omega) only [av_w, av_t1, av_tp, Int.toNat_natCast]))
    exact Sub.of_eq (congrArg aI (idxP_miss h0).symm)
theorem ints_contains (l : List Int) (p : Int → Bool) (hl : l.length ≤ 140737488351232) : Spec Try.prog 59 [aIs l, .one (.x (FnR Try.prog (FnM aI p l)))] (.r1 (aB (l.any p))) := by
  refine spec_of T_ok Try.func59 (by dsimp only [Try.f59]) rfl rfl (by simp) fun w F => ?_
  repeat' (first
    | (with_reducible refine aw_seq ?_)
    | ((with_reducible refine twoG_intro ?_ ?_) <;> intro hTw <;> first | (exact Bool.noConfusion hTw) | ((try simp only [hTw, Bool.not_true, Bool.not_false, Bool.true_and, Bool.false_and, Bool.and_true, Bool.and_false, Bool.true_or, Bool.false_or, Bool.or_true, Bool.or_false]); (first | (guard_hyp hTw : true = true; clear hTw) | (guard_hyp hTw : false = false; clear hTw) | (revert hTw; intro _))))
    | ((with_reducible refine two_intro ?_ ?_) <;> intro hTw <;> first | (exact Bool.noConfusion hTw) | ((first | (guard_hyp hTw : true = true; clear hTw) | (guard_hyp hTw : false = false; clear hTw) | (revert hTw; intro _))))
    | ((with_reducible refine And.intro ?_ ?_); (focus (first | omega | rfl | decide | grind)))
    | (with_reducible refine aw_block ?_)
    | (with_reducible refine aw_scope ?_)
    | ((first
        | ((with_reducible refine aw_regionA T_ok ?_ ?_); (focus kernel_rfl))
        | ((with_reducible refine aw_drawnA T_ok ?_ ?_ ?_ ?_); (focus kernel_rfl); (focus kernel_rfl); (focus (decide +kernel)))
        | ((with_reducible refine aw_drawnF T_ok ?_ ?_ ?_ ?_); (focus kernel_rfl); (focus kernel_rfl); (focus (decide +kernel)))
        | ((with_reducible refine callK_intro (ints_index l p hl) (by with_unfolding_all rfl) ?_ ?_); (focus kernel_rfl))
        | ((with_reducible refine callI_spec (ints_index l p hl) (by with_unfolding_all rfl) ?_ ?_ ?_); (focus kernel_rfl); (focus kernel_rfl))
        | (with_reducible refine aw_label ?_)
        | ((with_reducible refine aw_rfM ?_ ?_); (focus kernel_rfl))
        | (with_reducible refine aw_skip ?_)
        | (with_reducible refine aw_exit ?_)
        | ((with_reducible refine aw_condM ?_ ?_); (focus kernel_rfl))
        | (with_reducible refine aw_ret ?_)
      ); simp only [↓avP, avQ, if_true, if_false, forall_const, beq_self_eq_true, eq_self, ne_eq, implies_true, reduceIte, Nat.reduceEqDiff, Nat.reduceAdd, Nat.reduceSub, Int.reduceToNat, Nat.reduceLeDiff, Nat.reduceLT, reduceCtorEq, Int.reduceEq, retQ, retL, resV, RetV, RetOk, SubL, intD_B, lotD_B, snocI, ty_3, ty_28, ty_4, ty_30, ty_22, ty_25, issD_get]; try simp (disch := omega) only [av_w, av_t1, av_tp, Int.toNat_natCast]))
  exact Sub.of_eq (congrArg aB (by rw [idxP_any, any_getD]))
end Go.Proofs.Ytnlaiaklafjamaa

