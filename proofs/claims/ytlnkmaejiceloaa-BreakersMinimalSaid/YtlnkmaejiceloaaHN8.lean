import Derived.Test.YtlnkmaejiceloaaHN7
namespace Go.Proofs.Ytlnkmaejiceloaa
set_option linter.unusedSimpArgs false
set_option linter.unusedVariables false
open Go.RowKit
def setOf (ws : List Nat) (n : Nat) : Bool := (ws.getD (n / 64) 0).testBit (n % 64)
def addS (ws : List Nat) (n : Nat) : List Nat := ws.set (n / 64) (ws.getD (n / 64) 0 ||| 2 ^ (n % 64))
def OkW (ws : List Nat) : Prop := ∀ w ∈ ws, w < 18446744073709551616
theorem OkW.at {ws : List Nat} (h : OkW ws) (k : Nat) : ws.getD k 0 < 18446744073709551616 := by
  rcases Nat.lt_or_ge k ws.length with hk | hk
  · rw [List.getD, List.getElem?_eq_getElem hk]; exact h _ (by simp)
  · rw [List.getD, List.getElem?_eq_none hk]; decide
theorem or_lt {w r : Nat} (hw : w < 18446744073709551616) (hr : r < 64) : w ||| 2 ^ r < 18446744073709551616 := by
  have h1 : (18446744073709551616 : Nat) = 2 ^ 64 := by decide
  rw [h1] at hw ⊢
  exact Nat.or_lt_two_pow hw (Nat.pow_lt_pow_right (by omega) hr)
theorem OkW.add {ws : List Nat} (h : OkW ws) (n : Nat) : OkW (addS ws n) := fun w hw => by
  unfold addS at hw
  rcases List.mem_or_eq_of_mem_set hw with hw | rfl
  · exact h w hw
  · exact or_lt (h.at _) (Nat.mod_lt _ (by omega))
theorem addS_len (ws : List Nat) (n : Nat) : (addS ws n).length = ws.length := by simp [addS]
theorem setOf_add {ws : List Nat} {n : Nat} (h : n / 64 < ws.length) (m : Nat) : setOf (addS ws n) m = (setOf ws m || decide (m = n)) := by
  unfold setOf addS
  by_cases hq : n / 64 = m / 64
  · rw [List.getD, ← hq, List.getElem?_set_self h, Option.getD_some, Nat.testBit_or, Nat.testBit_two_pow]
    congr 1
    rw [decide_eq_decide]
    constructor
    · intro hr
      have h1 := Nat.div_add_mod n 64
      have h2 := Nat.div_add_mod m 64
      omega
    · intro e; rw [e]
  · rw [List.getD, List.getElem?_set_ne hq, ← List.getD]
    have : decide (m = n) = false := decide_eq_false (fun e => hq (by rw [e]))
    rw [this, Bool.or_false]
theorem setOf_none (k m : Nat) : setOf (List.replicate k 0) m = false := by
  unfold setOf
  have : (List.replicate k 0).getD (m / 64) 0 = 0 := by
    simp only [List.getD_eq_getElem?_getD, List.getElem?_replicate]
    split <;> rfl
  rw [this, Nat.zero_testBit]
theorem okW_none (k : Nat) : OkW (List.replicate k 0) := fun w hw => by rw [(List.mem_replicate.1 hw).2]; decide
/-- what the code computes of a word -/
theorem u64_wrap {n : Nat} (h : n < 18446744073709551616) : IntKind.u64.wrap (n : Int) = n := by
  simp only [IntKind.wrap, IntKind.signed, IntKind.bits]; simp; omega
theorem ofInt64 {q : Nat} (h : q < 18446744073709551616) : (BitVec.ofInt 64 (q : Int)).toNat = q := by
  rw [BitVec.toNat_ofInt]; omega
theorem has_word {w : Nat} {r : Int} (hw : w < 18446744073709551616) (h0 : 0 ≤ r) (h1 : r < 64) : ((IntKind.u64.wrap (((BitVec.ofInt IntKind.u64.bits ((w : Int).fdiv (2 ^ min r.toNat IntKind.u64.bits)) &&& BitVec.ofInt IntKind.u64.bits 1).toNat : Nat) : Int)) == 1) = w.testBit r.toNat := by
  have hb : IntKind.u64.bits = 64 := rfl
  rw [hb, Nat.min_eq_left (by omega)]
  obtain ⟨k, rfl⟩ : ∃ k : Nat, r = k := ⟨r.toNat, by omega⟩
  rw [Int.toNat_natCast]
  have hd : (w : Int).fdiv (2 ^ k) = ((w / 2 ^ k : Nat) : Int) := by
    rw [Int.fdiv_eq_ediv_of_nonneg]
    · simp
    · exact Int.le_of_lt (Int.pow_pos (by omega))
  have hlt : w / 2 ^ k < 18446744073709551616 := Nat.lt_of_le_of_lt (Nat.div_le_self _ _) hw
  rw [hd]
  have e1 : (BitVec.ofInt 64 ((w / 2 ^ k : Nat) : Int) &&& BitVec.ofInt 64 1).toNat = w / 2 ^ k % 2 := by
    rw [BitVec.toNat_and]
    have a1 : (BitVec.ofInt 64 ((w / 2 ^ k : Nat) : Int)).toNat = w / 2 ^ k := ofInt64 hlt
    have a2 : (BitVec.ofInt 64 1).toNat = 1 := by decide
    rw [a1, a2, Nat.and_one_is_mod]
  rw [e1, u64_wrap (by omega), Nat.testBit_eq_decide_div_mod_eq]
  rw [Bool.eq_iff_iff, beq_iff_eq, decide_eq_true_eq]
  omega
theorem add_word {w : Nat} {r : Int} (hw : w < 18446744073709551616) (h0 : 0 ≤ r) (h1 : r < 64) : IntKind.u64.wrap (((BitVec.ofInt IntKind.u64.bits (w : Int) ||| BitVec.ofInt IntKind.u64.bits (IntKind.u64.wrap (1 * 2 ^ min r.toNat IntKind.u64.bits))).toNat : Nat) : Int) = ((w ||| 2 ^ r.toNat : Nat) : Int) := by
  have hb : IntKind.u64.bits = 64 := rfl
  rw [hb, Nat.min_eq_left (by omega)]
  obtain ⟨k, rfl⟩ : ∃ k : Nat, r = k := ⟨r.toNat, by omega⟩
  rw [Int.toNat_natCast]
  have hk : (2 : Nat) ^ k < 2 ^ 64 := Nat.pow_lt_pow_right (by omega) (by omega)
  have h64 : (18446744073709551616 : Nat) = 2 ^ 64 := by decide
  have e0 : IntKind.u64.wrap (1 * 2 ^ k) = ((2 ^ k : Nat) : Int) := by
    have : (1 * 2 ^ k : Int) = ((2 ^ k : Nat) : Int) := by simp
    rw [this, u64_wrap (by omega)]
  rw [e0]
  have a1 : (BitVec.ofInt 64 (w : Int)).toNat = w := ofInt64 hw
  have a2 : (BitVec.ofInt 64 ((2 ^ k : Nat) : Int)).toNat = 2 ^ k := ofInt64 (by omega)
  rw [BitVec.toNat_or, a1, a2, u64_wrap]
  rw [h64] at hw ⊢
  exact Nat.or_lt_two_pow hw hk
theorem has_wordN {w r : Nat} (hw : w < 18446744073709551616) (h1 : r < 64) : (IntKind.u64.wrap (((BitVec.ofInt IntKind.u64.bits ((w : Int).fdiv (2 ^ min r IntKind.u64.bits)) &&& BitVec.ofInt IntKind.u64.bits 1).toNat : Nat) : Int) == 1) = w.testBit r := by
  have := has_word (r := (r : Int)) hw (by omega) (by omega)
  rwa [Int.toNat_natCast] at this
theorem add_wordN {w r : Nat} (hw : w < 18446744073709551616) (h1 : r < 64) : IntKind.u64.wrap (((BitVec.ofInt IntKind.u64.bits (w : Int) ||| BitVec.ofInt IntKind.u64.bits (IntKind.u64.wrap (1 * 2 ^ min r IntKind.u64.bits))).toNat : Nat) : Int) = ((w ||| 2 ^ r : Nat) : Int) := by
  have := add_word (r := (r : Int)) hw (by omega) (by omega)
  rwa [Int.toNat_natCast] at this
end Go.Proofs.Ytlnkmaejiceloaa


namespace Go.Proofs.Ytlnkmaejiceloaa
set_option linter.unusedSimpArgs false
set_option linter.unusedVariables false
open Go.RowKit
/-- the specification: the outs that a letter at some of the spots can reach -/
def canB (x : LotP) (sp : List Int) (j : Nat) : Bool := (List.range x.inn.length).any fun i => decide (x.inn.getD i 0 ∈ sp) && (!x.known || (x.perm.getD i 0 == (j : Int)))
def outL (x : LotP) (n : Int) (sp : List Int) (k : Nat) : List Int := ((List.range k).filter (canB x sp)).map fun j : Nat => n + j
def folL (x : LotP) (n : Int) (sp : List Int) : List Int := sp ++ outL x n sp x.inn.length
def spL (f : FlowP) (s : Int) : Nat → List Int
  | 0 => [s]
  | k + 1 => folL (f.lots.getD k default) (befF f k) (spL f s k)
theorem mem_outL {x : LotP} {n : Int} {sp : List Int} {k : Nat} {m : Int} : m ∈ outL x n sp k ↔ ∃ j : Nat, j < k ∧ m = n + j ∧ canB x sp j = true := by
  unfold outL
  rw [List.mem_map]
  constructor
  · rintro ⟨j, hj, rfl⟩
    rw [List.mem_filter, List.mem_range] at hj
    exact ⟨j, hj.1, rfl, hj.2⟩
  · rintro ⟨j, hj, rfl, h⟩
    exact ⟨j, List.mem_filter.2 ⟨List.mem_range.2 hj, h⟩, rfl⟩
theorem canB_iff {x : LotP} {sp : List Int} {j : Nat} : canB x sp j = true ↔ ∃ i, i < x.inn.length ∧ x.inn.getD i 0 ∈ sp ∧ (x.known = false ∨ x.perm.getD i 0 = (j : Int)) := by
  unfold canB
  rw [List.any_eq_true]
  constructor
  · rintro ⟨i, hi, h⟩
    refine ⟨i, by simpa using hi, ?_⟩
    simpa using h
  · rintro ⟨i, hi, h⟩
    exact ⟨i, by simpa using hi, by simpa using h⟩
theorem mem_spL_succ {f : FlowP} {s : Int} {k : Nat} {m : Int} : m ∈ spL f s (k + 1) ↔ m ∈ spL f s k ∨ ∃ j : Nat, j < (f.lots.getD k default).inn.length ∧ m = befF f k + j ∧ canB (f.lots.getD k default) (spL f s k) j = true := by
  rw [spL, folL, List.mem_append, mem_outL]
/-- the words, as the code goes -/
def stW (bef : Nat) (x : LotP) (i : Nat) (ws : List Nat) : List Nat :=
  if x.known = false then addS ws (bef + i) else if setOf ws (x.inn.getD i 0).toNat = true then addS ws (bef + (x.perm.getD i 0).toNat) else ws
def inW (bef : Nat) (x : LotP) : Nat → List Nat → List Nat
  | 0, ws => ws
  | i + 1, ws => stW bef x i (inW bef x i ws)
def someB (x : LotP) (ws : List Nat) : Bool := x.inn.any fun s => setOf ws s.toNat
def lotW (bef : Nat) (x : LotP) (i : Nat) (ws : List Nat) : List Nat := if someB x ws = true then inW bef x i ws else ws
def nW (f : FlowP) : Nat := (befF f f.lots.length).toNat / 64 + 1
def spW (f : FlowP) (s : Nat) : Nat → List Nat
  | 0 => addS (List.replicate (nW f) 0) s
  | k + 1 => lotW (befF f k).toNat (f.lots.getD k default) (f.lots.getD k default).inn.length (spW f s k)
theorem stW_len (bef : Nat) (x : LotP) (i : Nat) (ws : List Nat) : (stW bef x i ws).length = ws.length := by
  unfold stW; split <;> (try split) <;> simp [addS_len]
theorem inW_len (bef : Nat) (x : LotP) (ws : List Nat) : ∀ i, (inW bef x i ws).length = ws.length
  | 0 => rfl
  | i + 1 => by rw [inW, stW_len, inW_len bef x ws i]
theorem lotW_len (bef : Nat) (x : LotP) (i : Nat) (ws : List Nat) : (lotW bef x i ws).length = ws.length := by
  unfold lotW; split
  · exact inW_len _ _ _ _
  · rfl
theorem spW_len (f : FlowP) (s : Nat) : ∀ k, (spW f s k).length = nW f
  | 0 => by rw [spW, addS_len, List.length_replicate]
  | k + 1 => by rw [spW, lotW_len, spW_len f s k]
theorem stW_ok {bef : Nat} {x : LotP} {i : Nat} {ws : List Nat} (h : OkW ws) : OkW (stW bef x i ws) := by
  unfold stW; split
  · exact h.add _
  · split
    · exact h.add _
    · exact h
theorem inW_ok {bef : Nat} {x : LotP} {ws : List Nat} (h : OkW ws) : ∀ i, OkW (inW bef x i ws)
  | 0 => h
  | i + 1 => stW_ok (inW_ok h i)
theorem lotW_ok {bef : Nat} {x : LotP} {i : Nat} {ws : List Nat} (h : OkW ws) : OkW (lotW bef x i ws) := by
  unfold lotW; split
  · exact inW_ok h i
  · exact h
theorem spW_ok (f : FlowP) (s : Nat) : ∀ k, OkW (spW f s k)
  | 0 => (okW_none _).add _
  | k + 1 => lotW_ok (spW_ok f s k)
/-- one lot: the outs are beyond its ins -/
theorem inW_set {bef : Nat} {x : LotP} {ws : List Nat} (hsz : bef + x.inn.length ≤ 64 * ws.length) (hin : ∀ s ∈ x.inn, 0 ≤ s ∧ s < (bef : Int)) (hp : x.known = true → x.perm.length = x.inn.length ∧ ∀ p ∈ x.perm, 0 ≤ p ∧ p < (x.inn.length : Int)) : ∀ i, i ≤ x.inn.length → ∀ m, setOf (inW bef x i ws) m = (setOf ws m || (List.range i).any fun k => if x.known = false then decide (m = bef + k) else setOf ws (x.inn.getD k 0).toNat && decide (m = bef + (x.perm.getD k 0).toNat))
  | 0, _, m => by simp [inW]
  | i + 1, hi, m => by
    have ih := inW_set hsz hin hp i (by omega)
    have hl := inW_len bef x ws i
    rw [inW, List.range_succ, List.any_append]
    simp only [List.any_cons, List.any_nil, Bool.or_false]
    rw [← Bool.or_assoc, ← ih m]
    unfold stW
    by_cases hk : x.known = false
    · rw [if_pos hk, if_pos hk, setOf_add (by rw [hl]; omega)]
    · rw [if_neg hk, if_neg hk]
      have hkt : x.known = true := by simpa using hk
      obtain ⟨hp1, hp2⟩ := hp hkt
      have hs := hin _ (getD_mem (show i < x.inn.length by omega))
      have hpi := hp2 _ (getD_mem (show i < x.perm.length by omega))
      have hold : setOf (inW bef x i ws) (x.inn.getD i 0).toNat = setOf ws (x.inn.getD i 0).toNat := by
        rw [ih]
        have : ((List.range i).any fun k => if x.known = false then decide ((x.inn.getD i 0).toNat = bef + k) else setOf ws (x.inn.getD k 0).toNat && decide ((x.inn.getD i 0).toNat = bef + (x.perm.getD k 0).toNat)) = false := by
          rw [List.any_eq_false]
          intro k _
          rw [if_neg hk, show decide ((x.inn.getD i 0).toNat = bef + (x.perm.getD k 0).toNat) = false from decide_eq_false (by omega), Bool.and_false]
          simp
        rw [this, Bool.or_false]
      rw [hold]
      by_cases hq : setOf ws (x.inn.getD i 0).toNat = true
      · rw [if_pos hq, hq, Bool.true_and, setOf_add (by rw [hl]; omega)]
      · rw [if_neg hq]
        simp only [Bool.not_eq_true] at hq
        rw [hq, Bool.false_and, Bool.or_false]
theorem spW_set {f : FlowP} (hc : checkF f = 0) {s : Nat} (hs : (s : Int) < f.senders) : ∀ k, k ≤ f.lots.length → (∀ m, setOf (spW f s k) m = decide ((m : Int) ∈ spL f s k)) ∧ ∀ m ∈ spL f s k, 0 ≤ m ∧ m < befF f k
  | 0, _ => by
    obtain ⟨z1, z2, z3, z4, _⟩ := checkF_zero hc
    have hb := befF_mono (f := f) (Nat.le_refl f.lots.length)
    refine ⟨fun m => ?_, fun m hm => ?_⟩
    · rw [spW, setOf_add (by rw [List.length_replicate]; unfold nW; omega), setOf_none, Bool.false_or, decide_eq_decide, spL, List.mem_singleton]
      omega
    · rw [spL, List.mem_singleton] at hm
      subst hm
      unfold befF
      simp
      omega
  | k + 1, hk => by
    obtain ⟨ih, ihb⟩ := spW_set hc hs k (by omega)
    have hg := goodL_at hc (k := k) (by omega)
    have hb1 := befF_succ (f := f) (k := k) (by omega)
    have hb2 := befF_mono (f := f) (k := k + 1) hk
    have hb3 := befF_mono (f := f) (k := k) (by omega)
    obtain ⟨z1, z2, z3, z4, _⟩ := checkF_zero hc
    rw [spW]
    have hmem : ∀ m, m ∈ spL f s (k + 1) ↔ _ := fun m => mem_spL_succ (f := f) (s := s) (k := k) (m := m)
    obtain ⟨x, hx⟩ : ∃ x, x = f.lots.getD k default := ⟨_, rfl⟩
    obtain ⟨b, hbk⟩ : ∃ b : Nat, befF f k = b := ⟨(befF f k).toNat, by omega⟩
    simp only [← hx, hbk] at hmem hg hb1 ⊢
    rw [Int.toNat_natCast]
    refine ⟨fun m => ?_, fun m hm => ?_⟩
    · have hin : ∀ t ∈ x.inn, 0 ≤ t ∧ t < (b : Int) := fun t ht => ⟨(hg.fr t ht).1, (hg.fr t ht).2.1⟩
      have hset := inW_set (bef := b) (x := x) (ws := spW f s k) (by rw [spW_len]; unfold nW; omega) hin (fun h => ⟨(hg.pl h).1, (hg.pl h).2.2⟩) x.inn.length (Nat.le_refl _) m
      have hat : ∀ i, i < x.inn.length → setOf (spW f s k) (x.inn.getD i 0).toNat = decide (x.inn.getD i 0 ∈ spL f s k) := fun i hi => by
        have := hin _ (getD_mem hi)
        rw [ih, Int.toNat_of_nonneg this.1]
      have hsome : someB x (spW f s k) = true ↔ ∃ i, i < x.inn.length ∧ x.inn.getD i 0 ∈ spL f s k := by
        unfold someB
        rw [List.any_eq_true]
        constructor
        · rintro ⟨t, ht, h⟩
          obtain ⟨i, hi, rfl⟩ := List.getElem_of_mem ht
          have e : x.inn.getD i 0 = x.inn[i] := by simp [List.getD, hi]
          refine ⟨i, hi, ?_⟩
          have := hat i hi
          rw [e, h] at this
          rw [e]
          simpa using this.symm
        · rintro ⟨i, hi, h⟩
          exact ⟨_, getD_mem hi, by rw [hat i hi]; exact decide_eq_true h⟩
      unfold lotW
      rw [Bool.eq_iff_iff, decide_eq_true_eq, hmem]
      by_cases hsm : someB x (spW f s k) = true
      · rw [if_pos hsm, hset, Bool.or_eq_true, ih, decide_eq_true_eq, List.any_eq_true]
        refine or_congr Iff.rfl ?_
        constructor
        · rintro ⟨i, hi, h⟩
          have hi' : i < x.inn.length := by simpa using hi
          by_cases hkn : x.known = false
          · rw [if_pos hkn, decide_eq_true_eq] at h
            obtain ⟨i0, h1, h2⟩ := hsome.1 hsm
            exact ⟨i, hi', by omega, canB_iff.2 ⟨i0, h1, h2, .inl hkn⟩⟩
          · have hkt : x.known = true := by simpa using hkn
            rw [if_neg hkn, Bool.and_eq_true, hat i hi', decide_eq_true_eq, decide_eq_true_eq] at h
            have hp := (hg.pl hkt).2.2 _ (getD_mem (show i < x.perm.length by rw [(hg.pl hkt).1]; exact hi'))
            refine ⟨(x.perm.getD i 0).toNat, by omega, by omega, canB_iff.2 ⟨i, hi', h.1, .inr ?_⟩⟩
            rw [Int.toNat_of_nonneg hp.1]
        · rintro ⟨j, hj, hm, h⟩
          obtain ⟨i, hi, h1, h2⟩ := canB_iff.1 h
          by_cases hkn : x.known = false
          · exact ⟨j, by simpa using hj, by rw [if_pos hkn, decide_eq_true_eq]; omega⟩
          · have hkt : x.known = true := by simpa using hkn
            have h3 : x.perm.getD i 0 = j := h2.resolve_left (by rw [hkt]; simp)
            refine ⟨i, by simpa using hi, ?_⟩
            rw [if_neg hkn, Bool.and_eq_true, hat i hi, decide_eq_true_eq, decide_eq_true_eq, h3]
            exact ⟨h1, by omega⟩
      · rw [if_neg hsm, ih, decide_eq_true_eq]
        refine ⟨Or.inl, fun h => h.resolve_right ?_⟩
        rintro ⟨j, hj, hm, h⟩
        obtain ⟨i, hi, h1, h2⟩ := canB_iff.1 h
        exact hsm (hsome.2 ⟨i, hi, h1⟩)
    · rcases (hmem m).1 hm with h | ⟨j, hj, hm, _⟩
      · have := ihb m h
        omega
      · omega
/-- a sender's ends -/
def endS (f : FlowP) (s : Int) : List Int := (endsF f).filter fun t => decide (t ∈ spL f s f.lots.length)
def errE (f : FlowP) (s : Int) : Int := if checkF f ≠ 0 then checkF f else if s < 0 ∨ f.senders ≤ s then 1 else 0
def endR (f : FlowP) (s : Int) : List Int := if errE f s = 0 then endS f s else []
end Go.Proofs.Ytlnkmaejiceloaa

