import Derived.Test.YtnlaiaklafjamaaGA6
import Derived.Test.YtnlaiaklafjamaaGA5
namespace Go.Proofs.Ytnlaiaklafjamaa
set_option linter.unusedSimpArgs false
set_option linter.unusedVariables false
open Go.RowKit
theorem endsF_lt (f : FlowP) : (endsF f).Pairwise (· < ·) := by
  unfold endsF
  refine List.Pairwise.sublist List.filter_sublist (List.pairwise_map.2 ?_)
  exact List.Pairwise.imp (fun {a b} h => by omega) (List.pairwise_lt_range (n := _))
theorem mem_endsF {f : FlowP} {t : Int} : t ∈ endsF f ↔ 0 ≤ t ∧ t < befF f f.lots.length ∧ t ∉ goneF f f.lots.length := by
  unfold endsF
  rw [List.mem_filter, List.mem_map]
  simp only [List.mem_range, Bool.not_eq_true', decide_eq_false_iff_not]
  exact ⟨fun ⟨⟨n, h1, h2⟩, h3⟩ => ⟨by omega, by omega, h3⟩, fun ⟨h1, h2, h3⟩ => ⟨⟨t.toNat, by omega, by omega⟩, h3⟩⟩
end Go.Proofs.Ytnlaiaklafjamaa


namespace Go.Proofs.Ytnlaiaklafjamaa
set_option linter.unusedSimpArgs false
set_option linter.unusedVariables false
open Go.RowKit
abbrev takeF (f : FlowP) (k : Nat) : FlowP := ⟨f.senders, f.lots.take k⟩
section
variable {f : FlowP} {k i : Nat}
theorem take_bef (h : i ≤ k) : befF (takeF f k) i = befF f i := by
  unfold befF
  simp only [List.take_take, Nat.min_eq_left h]
theorem take_gone (h : i ≤ k) : goneF (takeF f k) i = goneF f i := by
  unfold goneF
  simp only [List.take_take, Nat.min_eq_left h]
theorem take_at (h : i < k) : (takeF f k).lots.getD i default = f.lots.getD i default := by
  simp only [List.getD_eq_getElem?_getD, List.getElem?_take, if_pos h]
theorem take_len (h : k ≤ f.lots.length) : (takeF f k).lots.length = k := by simp; omega
theorem check_take (hc : checkF f = 0) (hk : k ≤ f.lots.length) : checkF (takeF f k) = 0 := by
  obtain ⟨z1, z2, z3, z4, z5⟩ := checkF_zero hc
  have hl := take_len hk
  have hb := befF_mono (f := f) hk
  unfold checkF
  rw [hl, take_bef (Nat.le_refl k), if_neg (by show ¬ (64 < f.senders ∨ _); omega), if_neg (by show ¬ f.senders < 0; omega), if_pos]
  unfold validF
  rw [hl, List.all_eq_true]
  intro i hi
  have hik : i < k := by simpa using hi
  have := z5 i (by omega)
  unfold okAt at this ⊢
  rw [take_bef (by omega), take_gone (by omega), take_at hik]
  exact this
theorem OkF.take (hf : OkF f) (k : Nat) : OkF (takeF f k) := ⟨hf.s, Nat.le_trans (List.length_take_le' _ _) hf.l, fun x hx => hf.lots x (List.mem_of_mem_take hx)⟩
end
end Go.Proofs.Ytnlaiaklafjamaa


namespace Go.Proofs.Ytnlaiaklafjamaa
set_option linter.unusedSimpArgs false
set_option linter.unusedVariables false
open Go.RowKit
abbrev moreF (f : FlowP) (x : LotP) : FlowP := ⟨f.senders, f.lots ++ [x]⟩
section
variable {f : FlowP} {x : LotP}
theorem take_more (f : FlowP) (x : LotP) : takeF (moreF f x) f.lots.length = f := by
  cases f; simp [takeF]
theorem more_len (f : FlowP) (x : LotP) : (moreF f x).lots.length = f.lots.length + 1 := by simp
theorem more_at (f : FlowP) (x : LotP) : (moreF f x).lots.getD f.lots.length default = x := by simp [List.getD]
theorem more_check (hc : checkF (moreF f x) = 0) : checkF f = 0 := by
  have := check_take hc (k := f.lots.length) (by rw [more_len]; omega)
  rwa [take_more] at this
theorem OkF.more (hf : OkF f) (hx : OkL x) (hl : f.lots.length + 1 ≤ 140737488351232) : OkF (moreF f x) :=
  ⟨hf.s, by rw [more_len]; exact hl, fun y hy => by
    rcases List.mem_append.1 hy with hy | hy
    · exact hf.lots y hy
    · rw [List.mem_singleton.1 hy]; exact hx⟩
end
end Go.Proofs.Ytnlaiaklafjamaa


namespace Go.Proofs.Ytnlaiaklafjamaa
set_option linter.unusedSimpArgs false
set_option linter.unusedVariables false
open Go.RowKit
theorem range_lt (k : Nat) : (List.range k).Pairwise (· < ·) := List.pairwise_lt_range
section
variable {f : FlowP} {lines : List (List Int)} {coal : List Int}
end
end Go.Proofs.Ytnlaiaklafjamaa


namespace Go.Proofs.Ytnlaiaklafjamaa
set_option linter.unusedSimpArgs false
set_option linter.unusedVariables false
open Go.RowKit
def setOf (ws : List Nat) (n : Nat) : Bool := (ws.getD (n / 64) 0).testBit (n % 64)
def addS (ws : List Nat) (n : Nat) : List Nat := ws.set (n / 64) (ws.getD (n / 64) 0 ||| 2 ^ (n % 64))
def OkW (ws : List Nat) : Prop := ∀ w ∈ ws, w < 18446744073709551616
theorem OkW.at {ws : List Nat} (h : OkW ws) (k : Nat) : ws.getD k 0 < 18446744073709551616 := by
  rcases Nat.lt_or_ge k ws.length with hk | hk
  · rw [List.getD, List.getElem?_eq_getElem hk]; exact h _ (by simp)
  · rw [List.getD, List.getElem?_eq_none hk]; decide
theorem or_lt {w r : Nat} (hw : w < 18446744073709551616) (hr : r < 64) : w ||| 2 ^ r < 18446744073709551616 := by
  have h1 : (18446744073709551616 : Nat) = 2 ^ 64 := by decide
  rw [h1] at hw ⊢
  exact Nat.or_lt_two_pow hw (Nat.pow_lt_pow_right (by omega) hr)
theorem OkW.add {ws : List Nat} (h : OkW ws) (n : Nat) : OkW (addS ws n) := fun w hw => by
  unfold addS at hw
  rcases List.mem_or_eq_of_mem_set hw with hw | rfl
  · exact h w hw
  · exact or_lt (h.at _) (Nat.mod_lt _ (by omega))
theorem addS_len (ws : List Nat) (n : Nat) : (addS ws n).length = ws.length := by simp [addS]
theorem setOf_add {ws : List Nat} {n : Nat} (h : n / 64 < ws.length) (m : Nat) : setOf (addS ws n) m = (setOf ws m || decide (m = n)) := by
  unfold setOf addS
  by_cases hq : n / 64 = m / 64
  · rw [List.getD, ← hq, List.getElem?_set_self h, Option.getD_some, Nat.testBit_or, Nat.testBit_two_pow]
    congr 1
    rw [decide_eq_decide]
    constructor
    · intro hr
      have h1 := Nat.div_add_mod n 64
      have h2 := Nat.div_add_mod m 64
      omega
    · intro e; rw [e]
  · rw [List.getD, List.getElem?_set_ne hq, ← List.getD]
    have : decide (m = n) = false := decide_eq_false (fun e => hq (by rw [e]))
    rw [this, Bool.or_false]
theorem setOf_none (k m : Nat) : setOf (List.replicate k 0) m = false := by
  unfold setOf
  have : (List.replicate k 0).getD (m / 64) 0 = 0 := by
    simp only [List.getD_eq_getElem?_getD, List.getElem?_replicate]
    split <;> rfl
  rw [this, Nat.zero_testBit]
theorem okW_none (k : Nat) : OkW (List.replicate k 0) := fun w hw => by rw [(List.mem_replicate.1 hw).2]; decide
/-- what the code computes of a word -/
theorem u64_wrap {n : Nat} (h : n < 18446744073709551616) : IntKind.u64.wrap (n : Int) = n := by
  simp only [IntKind.wrap, IntKind.signed, IntKind.bits]; simp; omega
theorem ofInt64 {q : Nat} (h : q < 18446744073709551616) : (BitVec.ofInt 64 (q : Int)).toNat = q := by
  rw [BitVec.toNat_ofInt]; omega
theorem has_word {w : Nat} {r : Int} (hw : w < 18446744073709551616) (h0 : 0 ≤ r) (h1 : r < 64) : ((IntKind.u64.wrap (((BitVec.ofInt IntKind.u64.bits ((w : Int).fdiv (2 ^ min r.toNat IntKind.u64.bits)) &&& BitVec.ofInt IntKind.u64.bits 1).toNat : Nat) : Int)) == 1) = w.testBit r.toNat := by
  have hb : IntKind.u64.bits = 64 := rfl
  rw [hb, Nat.min_eq_left (by omega)]
  obtain ⟨k, rfl⟩ : ∃ k : Nat, r = k := ⟨r.toNat, by omega⟩
  rw [Int.toNat_natCast]
  have hd : (w : Int).fdiv (2 ^ k) = ((w / 2 ^ k : Nat) : Int) := by
    rw [Int.fdiv_eq_ediv_of_nonneg]
    · simp
    · exact Int.le_of_lt (Int.pow_pos (by omega))
  have hlt : w / 2 ^ k < 18446744073709551616 := Nat.lt_of_le_of_lt (Nat.div_le_self _ _) hw
  rw [hd]
  have e1 : (BitVec.ofInt 64 ((w / 2 ^ k : Nat) : Int) &&& BitVec.ofInt 64 1).toNat = w / 2 ^ k % 2 := by
    rw [BitVec.toNat_and]
    have a1 : (BitVec.ofInt 64 ((w / 2 ^ k : Nat) : Int)).toNat = w / 2 ^ k := ofInt64 hlt
    have a2 : (BitVec.ofInt 64 1).toNat = 1 := by decide
    rw [a1, a2, Nat.and_one_is_mod]
  rw [e1, u64_wrap (by omega), Nat.testBit_eq_decide_div_mod_eq]
  rw [Bool.eq_iff_iff, beq_iff_eq, decide_eq_true_eq]
  omega
theorem add_word {w : Nat} {r : Int} (hw : w < 18446744073709551616) (h0 : 0 ≤ r) (h1 : r < 64) : IntKind.u64.wrap (((BitVec.ofInt IntKind.u64.bits (w : Int) ||| BitVec.ofInt IntKind.u64.bits (IntKind.u64.wrap (1 * 2 ^ min r.toNat IntKind.u64.bits))).toNat : Nat) : Int) = ((w ||| 2 ^ r.toNat : Nat) : Int) := by
  have hb : IntKind.u64.bits = 64 := rfl
  rw [hb, Nat.min_eq_left (by omega)]
  obtain ⟨k, rfl⟩ : ∃ k : Nat, r = k := ⟨r.toNat, by omega⟩
  rw [Int.toNat_natCast]
  have hk : (2 : Nat) ^ k < 2 ^ 64 := Nat.pow_lt_pow_right (by omega) (by omega)
  have h64 : (18446744073709551616 : Nat) = 2 ^ 64 := by decide
  have e0 : IntKind.u64.wrap (1 * 2 ^ k) = ((2 ^ k : Nat) : Int) := by
    have : (1 * 2 ^ k : Int) = ((2 ^ k : Nat) : Int) := by simp
    rw [this, u64_wrap (by omega)]
  rw [e0]
  have a1 : (BitVec.ofInt 64 (w : Int)).toNat = w := ofInt64 hw
  have a2 : (BitVec.ofInt 64 ((2 ^ k : Nat) : Int)).toNat = 2 ^ k := ofInt64 (by omega)
  rw [BitVec.toNat_or, a1, a2, u64_wrap]
  rw [h64] at hw ⊢
  exact Nat.or_lt_two_pow hw hk
theorem has_wordN {w r : Nat} (hw : w < 18446744073709551616) (h1 : r < 64) : (IntKind.u64.wrap (((BitVec.ofInt IntKind.u64.bits ((w : Int).fdiv (2 ^ min r IntKind.u64.bits)) &&& BitVec.ofInt IntKind.u64.bits 1).toNat : Nat) : Int) == 1) = w.testBit r := by
  have := has_word (r := (r : Int)) hw (by omega) (by omega)
  rwa [Int.toNat_natCast] at this
theorem add_wordN {w r : Nat} (hw : w < 18446744073709551616) (h1 : r < 64) : IntKind.u64.wrap (((BitVec.ofInt IntKind.u64.bits (w : Int) ||| BitVec.ofInt IntKind.u64.bits (IntKind.u64.wrap (1 * 2 ^ min r IntKind.u64.bits))).toNat : Nat) : Int) = ((w ||| 2 ^ r : Nat) : Int) := by
  have := add_word (r := (r : Int)) hw (by omega) (by omega)
  rwa [Int.toNat_natCast] at this
end Go.Proofs.Ytnlaiaklafjamaa


namespace Go.Proofs.Ytnlaiaklafjamaa
set_option linter.unusedSimpArgs false
set_option linter.unusedVariables false
open Go.RowKit
/-- the specification: the outs that a letter at some of the spots can reach -/
def canB (x : LotP) (sp : List Int) (j : Nat) : Bool := (List.range x.inn.length).any fun i => decide (x.inn.getD i 0 ∈ sp) && (!x.known || (x.perm.getD i 0 == (j : Int)))
def outL (x : LotP) (n : Int) (sp : List Int) (k : Nat) : List Int := ((List.range k).filter (canB x sp)).map fun j : Nat => n + j
def folL (x : LotP) (n : Int) (sp : List Int) : List Int := sp ++ outL x n sp x.inn.length
def spL (f : FlowP) (s : Int) : Nat → List Int
  | 0 => [s]
  | k + 1 => folL (f.lots.getD k default) (befF f k) (spL f s k)
theorem outL_succ (x : LotP) (n : Int) (sp : List Int) (k : Nat) : outL x n sp (k + 1) = if canB x sp k = true then outL x n sp k ++ [n + (k : Int)] else outL x n sp k := by
  unfold outL
  rw [List.range_succ, List.filter_append, List.map_append]
  by_cases h : canB x sp k = true <;> simp [h]
theorem outL_len (x : LotP) (n : Int) (sp : List Int) (k : Nat) : (outL x n sp k).length ≤ k := by
  unfold outL
  rw [List.length_map]
  exact Nat.le_trans (List.length_filter_le _ _) (by simp)
theorem mem_outL {x : LotP} {n : Int} {sp : List Int} {k : Nat} {m : Int} : m ∈ outL x n sp k ↔ ∃ j : Nat, j < k ∧ m = n + j ∧ canB x sp j = true := by
  unfold outL
  rw [List.mem_map]
  constructor
  · rintro ⟨j, hj, rfl⟩
    rw [List.mem_filter, List.mem_range] at hj
    exact ⟨j, hj.1, rfl, hj.2⟩
  · rintro ⟨j, hj, rfl, h⟩
    exact ⟨j, List.mem_filter.2 ⟨List.mem_range.2 hj, h⟩, rfl⟩
theorem canB_iff {x : LotP} {sp : List Int} {j : Nat} : canB x sp j = true ↔ ∃ i, i < x.inn.length ∧ x.inn.getD i 0 ∈ sp ∧ (x.known = false ∨ x.perm.getD i 0 = (j : Int)) := by
  unfold canB
  rw [List.any_eq_true]
  constructor
  · rintro ⟨i, hi, h⟩
    refine ⟨i, by simpa using hi, ?_⟩
    simpa using h
  · rintro ⟨i, hi, h⟩
    exact ⟨i, by simpa using hi, by simpa using h⟩
theorem mem_spL_succ {f : FlowP} {s : Int} {k : Nat} {m : Int} : m ∈ spL f s (k + 1) ↔ m ∈ spL f s k ∨ ∃ j : Nat, j < (f.lots.getD k default).inn.length ∧ m = befF f k + j ∧ canB (f.lots.getD k default) (spL f s k) j = true := by
  rw [spL, folL, List.mem_append, mem_outL]
/-- the words, as the code goes -/
def stW (bef : Nat) (x : LotP) (i : Nat) (ws : List Nat) : List Nat :=
  if x.known = false then addS ws (bef + i) else if setOf ws (x.inn.getD i 0).toNat = true then addS ws (bef + (x.perm.getD i 0).toNat) else ws
def inW (bef : Nat) (x : LotP) : Nat → List Nat → List Nat
  | 0, ws => ws
  | i + 1, ws => stW bef x i (inW bef x i ws)
def someB (x : LotP) (ws : List Nat) : Bool := x.inn.any fun s => setOf ws s.toNat
def lotW (bef : Nat) (x : LotP) (i : Nat) (ws : List Nat) : List Nat := if someB x ws = true then inW bef x i ws else ws
def nW (f : FlowP) : Nat := (befF f f.lots.length).toNat / 64 + 1
def spW (f : FlowP) (s : Nat) : Nat → List Nat
  | 0 => addS (List.replicate (nW f) 0) s
  | k + 1 => lotW (befF f k).toNat (f.lots.getD k default) (f.lots.getD k default).inn.length (spW f s k)
theorem stW_len (bef : Nat) (x : LotP) (i : Nat) (ws : List Nat) : (stW bef x i ws).length = ws.length := by
  unfold stW; split <;> (try split) <;> simp [addS_len]
theorem inW_len (bef : Nat) (x : LotP) (ws : List Nat) : ∀ i, (inW bef x i ws).length = ws.length
  | 0 => rfl
  | i + 1 => by rw [inW, stW_len, inW_len bef x ws i]
theorem lotW_len (bef : Nat) (x : LotP) (i : Nat) (ws : List Nat) : (lotW bef x i ws).length = ws.length := by
  unfold lotW; split
  · exact inW_len _ _ _ _
  · rfl
theorem spW_len (f : FlowP) (s : Nat) : ∀ k, (spW f s k).length = nW f
  | 0 => by rw [spW, addS_len, List.length_replicate]
  | k + 1 => by rw [spW, lotW_len, spW_len f s k]
theorem stW_ok {bef : Nat} {x : LotP} {i : Nat} {ws : List Nat} (h : OkW ws) : OkW (stW bef x i ws) := by
  unfold stW; split
  · exact h.add _
  · split
    · exact h.add _
    · exact h
theorem inW_ok {bef : Nat} {x : LotP} {ws : List Nat} (h : OkW ws) : ∀ i, OkW (inW bef x i ws)
  | 0 => h
  | i + 1 => stW_ok (inW_ok h i)
theorem lotW_ok {bef : Nat} {x : LotP} {i : Nat} {ws : List Nat} (h : OkW ws) : OkW (lotW bef x i ws) := by
  unfold lotW; split
  · exact inW_ok h i
  · exact h
theorem spW_ok (f : FlowP) (s : Nat) : ∀ k, OkW (spW f s k)
  | 0 => (okW_none _).add _
  | k + 1 => lotW_ok (spW_ok f s k)
/-- one lot: the outs are beyond its ins -/
theorem inW_set {bef : Nat} {x : LotP} {ws : List Nat} (hsz : bef + x.inn.length ≤ 64 * ws.length) (hin : ∀ s ∈ x.inn, 0 ≤ s ∧ s < (bef : Int)) (hp : x.known = true → x.perm.length = x.inn.length ∧ ∀ p ∈ x.perm, 0 ≤ p ∧ p < (x.inn.length : Int)) : ∀ i, i ≤ x.inn.length → ∀ m, setOf (inW bef x i ws) m = (setOf ws m || (List.range i).any fun k => if x.known = false then decide (m = bef + k) else setOf ws (x.inn.getD k 0).toNat && decide (m = bef + (x.perm.getD k 0).toNat))
  | 0, _, m => by simp [inW]
  | i + 1, hi, m => by
    have ih := inW_set hsz hin hp i (by omega)
    have hl := inW_len bef x ws i
    rw [inW, List.range_succ, List.any_append]
    simp only [List.any_cons, List.any_nil, Bool.or_false]
    rw [← Bool.or_assoc, ← ih m]
    unfold stW
    by_cases hk : x.known = false
    · rw [if_pos hk, if_pos hk, setOf_add (by rw [hl]; omega)]
    · rw [if_neg hk, if_neg hk]
      have hkt : x.known = true := by simpa using hk
      obtain ⟨hp1, hp2⟩ := hp hkt
      have hs := hin _ (getD_mem (show i < x.inn.length by omega))
      have hpi := hp2 _ (getD_mem (show i < x.perm.length by omega))
      have hold : setOf (inW bef x i ws) (x.inn.getD i 0).toNat = setOf ws (x.inn.getD i 0).toNat := by
        rw [ih]
        have : ((List.range i).any fun k => if x.known = false then decide ((x.inn.getD i 0).toNat = bef + k) else setOf ws (x.inn.getD k 0).toNat && decide ((x.inn.getD i 0).toNat = bef + (x.perm.getD k 0).toNat)) = false := by
          rw [List.any_eq_false]
          intro k _
          rw [if_neg hk, show decide ((x.inn.getD i 0).toNat = bef + (x.perm.getD k 0).toNat) = false from decide_eq_false (by omega), Bool.and_false]
          simp
        rw [this, Bool.or_false]
      rw [hold]
      by_cases hq : setOf ws (x.inn.getD i 0).toNat = true
      · rw [if_pos hq, hq, Bool.true_and, setOf_add (by rw [hl]; omega)]
      · rw [if_neg hq]
        simp only [Bool.not_eq_true] at hq
        rw [hq, Bool.false_and, Bool.or_false]
theorem spW_set {f : FlowP} (hc : checkF f = 0) {s : Nat} (hs : (s : Int) < f.senders) : ∀ k, k ≤ f.lots.length → (∀ m, setOf (spW f s k) m = decide ((m : Int) ∈ spL f s k)) ∧ ∀ m ∈ spL f s k, 0 ≤ m ∧ m < befF f k
  | 0, _ => by
    obtain ⟨z1, z2, z3, z4, _⟩ := checkF_zero hc
    have hb := befF_mono (f := f) (Nat.le_refl f.lots.length)
    refine ⟨fun m => ?_, fun m hm => ?_⟩
    · rw [spW, setOf_add (by rw [List.length_replicate]; unfold nW; omega), setOf_none, Bool.false_or, decide_eq_decide, spL, List.mem_singleton]
      omega
    · rw [spL, List.mem_singleton] at hm
      subst hm
      unfold befF
      simp
      omega
  | k + 1, hk => by
    obtain ⟨ih, ihb⟩ := spW_set hc hs k (by omega)
    have hg := goodL_at hc (k := k) (by omega)
    have hb1 := befF_succ (f := f) (k := k) (by omega)
    have hb2 := befF_mono (f := f) (k := k + 1) hk
    have hb3 := befF_mono (f := f) (k := k) (by omega)
    obtain ⟨z1, z2, z3, z4, _⟩ := checkF_zero hc
    rw [spW]
    have hmem : ∀ m, m ∈ spL f s (k + 1) ↔ _ := fun m => mem_spL_succ (f := f) (s := s) (k := k) (m := m)
    obtain ⟨x, hx⟩ : ∃ x, x = f.lots.getD k default := ⟨_, rfl⟩
    obtain ⟨b, hbk⟩ : ∃ b : Nat, befF f k = b := ⟨(befF f k).toNat, by omega⟩
    simp only [← hx, hbk] at hmem hg hb1 ⊢
    rw [Int.toNat_natCast]
    refine ⟨fun m => ?_, fun m hm => ?_⟩
    · have hin : ∀ t ∈ x.inn, 0 ≤ t ∧ t < (b : Int) := fun t ht => ⟨(hg.fr t ht).1, (hg.fr t ht).2.1⟩
      have hset := inW_set (bef := b) (x := x) (ws := spW f s k) (by rw [spW_len]; unfold nW; omega) hin (fun h => ⟨(hg.pl h).1, (hg.pl h).2.2⟩) x.inn.length (Nat.le_refl _) m
      have hat : ∀ i, i < x.inn.length → setOf (spW f s k) (x.inn.getD i 0).toNat = decide (x.inn.getD i 0 ∈ spL f s k) := fun i hi => by
        have := hin _ (getD_mem hi)
        rw [ih, Int.toNat_of_nonneg this.1]
      have hsome : someB x (spW f s k) = true ↔ ∃ i, i < x.inn.length ∧ x.inn.getD i 0 ∈ spL f s k := by
        unfold someB
        rw [List.any_eq_true]
        constructor
        · rintro ⟨t, ht, h⟩
          obtain ⟨i, hi, rfl⟩ := List.getElem_of_mem ht
          have e : x.inn.getD i 0 = x.inn[i] := by simp [List.getD, hi]
          refine ⟨i, hi, ?_⟩
          have := hat i hi
          rw [e, h] at this
          rw [e]
          simpa using this.symm
        · rintro ⟨i, hi, h⟩
          exact ⟨_, getD_mem hi, by rw [hat i hi]; exact decide_eq_true h⟩
      unfold lotW
      rw [Bool.eq_iff_iff, decide_eq_true_eq, hmem]
      by_cases hsm : someB x (spW f s k) = true
      · rw [if_pos hsm, hset, Bool.or_eq_true, ih, decide_eq_true_eq, List.any_eq_true]
        refine or_congr Iff.rfl ?_
        constructor
        · rintro ⟨i, hi, h⟩
          have hi' : i < x.inn.length := by simpa using hi
          by_cases hkn : x.known = false
          · rw [if_pos hkn, decide_eq_true_eq] at h
            obtain ⟨i0, h1, h2⟩ := hsome.1 hsm
            exact ⟨i, hi', by omega, canB_iff.2 ⟨i0, h1, h2, .inl hkn⟩⟩
          · have hkt : x.known = true := by simpa using hkn
            rw [if_neg hkn, Bool.and_eq_true, hat i hi', decide_eq_true_eq, decide_eq_true_eq] at h
            have hp := (hg.pl hkt).2.2 _ (getD_mem (show i < x.perm.length by rw [(hg.pl hkt).1]; exact hi'))
            refine ⟨(x.perm.getD i 0).toNat, by omega, by omega, canB_iff.2 ⟨i, hi', h.1, .inr ?_⟩⟩
            rw [Int.toNat_of_nonneg hp.1]
        · rintro ⟨j, hj, hm, h⟩
          obtain ⟨i, hi, h1, h2⟩ := canB_iff.1 h
          by_cases hkn : x.known = false
          · exact ⟨j, by simpa using hj, by rw [if_pos hkn, decide_eq_true_eq]; omega⟩
          · have hkt : x.known = true := by simpa using hkn
            have h3 : x.perm.getD i 0 = j := h2.resolve_left (by rw [hkt]; simp)
            refine ⟨i, by simpa using hi, ?_⟩
            rw [if_neg hkn, Bool.and_eq_true, hat i hi, decide_eq_true_eq, decide_eq_true_eq, h3]
            exact ⟨h1, by omega⟩
      · rw [if_neg hsm, ih, decide_eq_true_eq]
        refine ⟨Or.inl, fun h => h.resolve_right ?_⟩
        rintro ⟨j, hj, hm, h⟩
        obtain ⟨i, hi, h1, h2⟩ := canB_iff.1 h
        exact hsm (hsome.2 ⟨i, hi, h1⟩)
    · rcases (hmem m).1 hm with h | ⟨j, hj, hm, _⟩
      · have := ihb m h
        omega
      · omega
/-- a sender's ends -/
def endS (f : FlowP) (s : Int) : List Int := (endsF f).filter fun t => decide (t ∈ spL f s f.lots.length)
def errE (f : FlowP) (s : Int) : Int := if checkF f ≠ 0 then checkF f else if s < 0 ∨ f.senders ≤ s then 1 else 0
def endR (f : FlowP) (s : Int) : List Int := if errE f s = 0 then endS f s else []
def matA (f : FlowP) (k : Nat) : List (List Int) := (List.range k).map fun s : Nat => endS f s
def matR (f : FlowP) : List (List Int) := if checkF f = 0 then matA f f.senders.toNat else []
theorem matA_succ (f : FlowP) (k : Nat) : matA f (k + 1) = matA f k ++ [endS f k] := by simp [matA, List.range_succ]
theorem matA_len (f : FlowP) (k : Nat) : (matA f k).length = k := by simp [matA]
end Go.Proofs.Ytnlaiaklafjamaa


namespace Go.Proofs.Ytnlaiaklafjamaa
set_option linter.unusedSimpArgs false
set_option linter.unusedVariables false
open Go.RowKit
def plOK (x : LotP) : Prop := x.perm.length = x.inn.length ∧ x.perm.Nodup ∧ ∀ p ∈ x.perm, 0 ≤ p ∧ p < (x.inn.length : Int)
/-- g knows at least what f knows -/
structure FinF (f g : FlowP) : Prop where
  s : g.senders = f.senders
  l : g.lots.length = f.lots.length
  lots : ∀ k, k < f.lots.length → g.lots.getD k default = f.lots.getD k default ∨ ((f.lots.getD k default).known = false ∧ (g.lots.getD k default).known = true ∧ (g.lots.getD k default).inn = (f.lots.getD k default).inn ∧ plOK (g.lots.getD k default))
section
variable {f g : FlowP}
theorem FinF.inn (h : FinF f g) {k : Nat} (hk : k < f.lots.length) : (g.lots.getD k default).inn = (f.lots.getD k default).inn := by
  rcases h.lots k hk with e | ⟨_, _, e, _⟩
  · rw [e]
  · exact e
theorem FinF.inns (h : FinF f g) : ∀ k, k ≤ f.lots.length → (g.lots.take k).map (·.inn) = (f.lots.take k).map (·.inn) := by
  intro k hk
  refine List.ext_getElem? fun i => ?_
  rw [List.getElem?_map, List.getElem?_map, List.getElem?_take, List.getElem?_take]
  by_cases hi : i < k
  · rw [if_pos hi, if_pos hi]
    have e1 : g.lots[i]? = some (g.lots.getD i default) := by rw [List.getD, List.getElem?_eq_getElem (by rw [h.l]; omega)]; rfl
    have e2 : f.lots[i]? = some (f.lots.getD i default) := by rw [List.getD, List.getElem?_eq_getElem (by omega)]; rfl
    rw [e1, e2, Option.map_some, Option.map_some, h.inn (by omega)]
  · rw [if_neg hi, if_neg hi]
theorem FinF.bef (h : FinF f g) {k : Nat} (hk : k ≤ f.lots.length) : befF g k = befF f k := by
  unfold befF
  have := congrArg (fun l : List (List Int) => (l.map List.length).sum) (h.inns k hk)
  simp only [List.map_map] at this
  have e : (List.length ∘ fun x : LotP => x.inn) = fun x : LotP => x.inn.length := rfl
  rw [e] at this
  rw [h.s, this]
theorem FinF.gone (h : FinF f g) {k : Nat} (hk : k ≤ f.lots.length) : goneF g k = goneF f k := by
  unfold goneF
  rw [List.flatMap_def, List.flatMap_def, h.inns k hk]
theorem FinF.check (h : FinF f g) (hc : checkF f = 0) : checkF g = 0 := by
  obtain ⟨z1, z2, z3, z4, z5⟩ := checkF_zero hc
  unfold checkF
  rw [h.l, h.bef (Nat.le_refl _), h.s, if_neg (by omega), if_neg (by omega), if_pos]
  unfold validF
  rw [h.l, List.all_eq_true]
  intro i hi
  have hil : i < f.lots.length := by simpa using hi
  have hg := goodL_at hc hil
  unfold okAt
  rw [h.bef (by omega), h.gone (by omega), goodL_iff]
  rcases h.lots i hil with e | ⟨_, e2, e3, e4⟩
  · rw [e]; exact hg
  · exact ⟨by rw [e3]; exact hg.ne, by rw [e3]; exact hg.nd, by rw [e3]; exact hg.fr, fun _ => e4, fun h => by rw [e2] at h; simp at h⟩
theorem FinF.ends (h : FinF f g) : endsF g = endsF f := by
  unfold endsF
  rw [h.l, h.bef (Nat.le_refl _), h.gone (Nat.le_refl _)]
theorem FinF.sp (h : FinF f g) (s : Int) : ∀ k, k ≤ f.lots.length → ∀ m, m ∈ spL g s k → m ∈ spL f s k
  | 0, _, m, hm => hm
  | k + 1, hk, m, hm => by
    have ih := h.sp s k (by omega)
    rw [mem_spL_succ] at hm ⊢
    rcases hm with hm | ⟨j, h1, h2, h3⟩
    · exact .inl (ih m hm)
    · rw [h.inn (by omega)] at h1
      rw [h.bef (by omega)] at h2
      refine .inr ⟨j, h1, h2, ?_⟩
      rw [canB_iff] at h3 ⊢
      obtain ⟨i, i1, i2, i3⟩ := h3
      rw [h.inn (by omega)] at i1 i2
      refine ⟨i, i1, ih _ i2, ?_⟩
      rcases h.lots k (by omega) with e | ⟨e, _⟩
      · rw [e] at i3; exact i3
      · exact .inl e
theorem mem_endS {t s : Int} : t ∈ endS f s ↔ t ∈ endsF f ∧ t ∈ spL f s f.lots.length := by
  unfold endS
  rw [List.mem_filter, decide_eq_true_eq]
theorem endS_lt (f : FlowP) (s : Int) : (endS f s).Pairwise (· < ·) := (endsF_lt f).sublist List.filter_sublist
end
end Go.Proofs.Ytnlaiaklafjamaa


namespace Go.Proofs.Ytnlaiaklafjamaa
set_option linter.unusedSimpArgs false
set_option linter.unusedVariables false
open Go.RowKit
theorem sp_take (f : FlowP) (m : Nat) (s : Int) : ∀ k, k ≤ m → spL (takeF f m) s k = spL f s k
  | 0, _ => rfl
  | k + 1, h => by
    rw [spL, spL, sp_take f m s k (by omega), take_bef (by omega), take_at (by omega)]
section
variable {f : FlowP} {x : LotP}
theorem more_sp (f : FlowP) (x : LotP) (s : Int) {m : Int} : m ∈ spL (moreF f x) s (f.lots.length + 1) ↔ m ∈ spL f s f.lots.length ∨ ∃ j : Nat, j < x.inn.length ∧ m = befF f f.lots.length + j ∧ canB x (spL f s f.lots.length) j = true := by
  have h1 := sp_take (moreF f x) f.lots.length s f.lots.length (Nat.le_refl _)
  rw [take_more] at h1
  have h2 := take_bef (f := moreF f x) (k := f.lots.length) (i := f.lots.length) (Nat.le_refl _)
  rw [take_more] at h2
  rw [mem_spL_succ, more_at, ← h1, ← h2]
theorem more_end (f : FlowP) (x : LotP) {t : Int} : t ∈ endsF (moreF f x) ↔ 0 ≤ t ∧ t < befF f f.lots.length + (x.inn.length : Int) ∧ t ∉ goneF f f.lots.length ∧ t ∉ x.inn := by
  have h2 := take_bef (f := moreF f x) (k := f.lots.length) (i := f.lots.length) (Nat.le_refl _)
  have h3 := take_gone (f := moreF f x) (k := f.lots.length) (i := f.lots.length) (Nat.le_refl _)
  rw [take_more] at h2 h3
  rw [mem_endsF, more_len, befF_succ (by rw [more_len]; omega), goneF_succ (by rw [more_len]; omega), more_at, ← h2, ← h3, List.mem_append, not_or]
theorem more_good (hc : checkF (moreF f x) = 0) : GoodL (befF f f.lots.length) (goneF f f.lots.length) x := by
  have h2 := take_bef (f := moreF f x) (k := f.lots.length) (i := f.lots.length) (Nat.le_refl _)
  have h3 := take_gone (f := moreF f x) (k := f.lots.length) (i := f.lots.length) (Nat.le_refl _)
  rw [take_more] at h2 h3
  have := goodL_at hc (k := f.lots.length) (by rw [more_len]; omega)
  rwa [more_at, ← h2, ← h3] at this
theorem idx_at {l : List Int} (hn : l.Nodup) {i : Nat} (h : i < l.length) : l.idxOf (l.getD i 0) = i := by
  obtain ⟨j1, j2⟩ := idx_get (getD_mem h)
  exact getD_inj hn j1 h j2
end
end Go.Proofs.Ytnlaiaklafjamaa


namespace Go.Proofs.Ytnlaiaklafjamaa
set_option linter.unusedSimpArgs false
set_option linter.unusedVariables false
open Go.RowKit
theorem lt_ext : ∀ {l m : List Int}, l.Pairwise (· < ·) → m.Pairwise (· < ·) → (∀ t, t ∈ l ↔ t ∈ m) → l = m
  | [], [], _, _, _ => rfl
  | [], b :: m, _, _, h => by have := (h b).2 (by simp); cases this
  | a :: l, [], _, _, h => by have := (h a).1 (by simp); cases this
  | a :: l, b :: m, hl, hm, h => by
    rw [List.pairwise_cons] at hl hm
    have e : a = b := by
      have h1 := (h a).1 (by simp)
      have h2 := (h b).2 (by simp)
      rcases List.mem_cons.1 h1 with h1 | h1
      · exact h1
      · rcases List.mem_cons.1 h2 with h2 | h2
        · exact h2.symm
        · have := hm.1 a h1
          have := hl.1 b h2
          omega
    subst e
    rw [lt_ext hl.2 hm.2 fun t => ?_]
    constructor
    · intro ht
      have h1 := (h t).1 (List.mem_cons_of_mem _ ht)
      rcases List.mem_cons.1 h1 with h1 | h1
      · have := hl.1 t ht; omega
      · exact h1
    · intro ht
      have h1 := (h t).2 (List.mem_cons_of_mem _ ht)
      rcases List.mem_cons.1 h1 with h1 | h1
      · have := hm.1 t ht; omega
      · exact h1
/-- ends behind a lot -/
def rowN (x : LotP) (n : Int) (ends : List Int) : List Int := (ends.filter fun t => !decide (t ∈ x.inn)) ++ outL x n ends x.inn.length
def someM (x : LotP) (ends : List Int) : Bool := ends.any fun t => decide (t ∈ x.inn)
theorem outL_lt (x : LotP) (n : Int) (sp : List Int) (k : Nat) : (outL x n sp k).Pairwise (· < ·) := by
  unfold outL
  rw [List.pairwise_map]
  exact (List.Pairwise.sublist List.filter_sublist (range_lt k)).imp fun h => by omega
theorem canB_none {x : LotP} {sp : List Int} (h : ∀ i, i < x.inn.length → x.inn.getD i 0 ∉ sp) (j : Nat) : canB x sp j = false := by
  cases hb : canB x sp j with
  | false => rfl
  | true =>
    obtain ⟨i, h1, h2, _⟩ := canB_iff.1 hb
    exact (h i h1 h2).elim
theorem outL_none {x : LotP} {n : Int} {sp : List Int} {k : Nat} (h : ∀ i, i < x.inn.length → x.inn.getD i 0 ∉ sp) : outL x n sp k = [] := by
  unfold outL
  rw [List.filter_eq_nil_iff.2 fun j _ => by rw [canB_none h]; simp]
  rfl
theorem someM_false {x : LotP} {ends : List Int} (h : someM x ends = false) : ∀ i, i < x.inn.length → x.inn.getD i 0 ∉ ends := fun i hi hm => by
  unfold someM at h
  rw [List.any_eq_false] at h
  exact h _ hm (decide_eq_true (getD_mem hi))
theorem rowN_none {x : LotP} {n : Int} {ends : List Int} (h : someM x ends = false) : rowN x n ends = ends := by
  unfold rowN
  rw [outL_none (someM_false h), List.append_nil]
  refine List.filter_eq_self.2 fun t ht => ?_
  unfold someM at h
  rw [List.any_eq_false] at h
  simpa using h t ht
theorem rowN_some {x : LotP} {n : Int} {ends : List Int} (h : someM x ends = true) (hb : ∀ t ∈ x.inn, t < n) : rowN x n ends ≠ ends := fun e => by
  unfold someM at h
  obtain ⟨t, h1, h2⟩ := List.any_eq_true.1 h
  have h2 := of_decide_eq_true h2
  rw [← e] at h1
  unfold rowN at h1
  rcases List.mem_append.1 h1 with h1 | h1
  · have := (List.mem_filter.1 h1).2
    simp [h2] at this
  · obtain ⟨j, _, e, _⟩ := mem_outL.1 h1
    have := hb t h2
    omega
section
variable {f : FlowP} {x : LotP}
theorem endS_more (hc : checkF (moreF f x) = 0) {s : Nat} (hs : (s : Int) < f.senders) : endS (moreF f x) s = rowN x (befF f f.lots.length) (endS f s) := by
  have hc1 := more_check hc
  have hg := more_good hc
  have hmemE : ∀ t ∈ x.inn, (t ∈ endS f s ↔ t ∈ spL f s f.lots.length) := fun t ht => by
    have h1 := hg.fr t ht
    rw [mem_endS]
    exact ⟨fun h => h.2, fun h => ⟨mem_endsF.2 ⟨h1.1, h1.2.1, h1.2.2⟩, h⟩⟩
  have hcan : ∀ j, canB x (endS f s) j = canB x (spL f s f.lots.length) j := fun j => by
    rw [Bool.eq_iff_iff, canB_iff, canB_iff]
    exact ⟨fun ⟨i, h1, h2, h3⟩ => ⟨i, h1, (hmemE _ (getD_mem h1)).1 h2, h3⟩, fun ⟨i, h1, h2, h3⟩ => ⟨i, h1, (hmemE _ (getD_mem h1)).2 h2, h3⟩⟩
  refine lt_ext (endS_lt _ _) ?_ fun t => ?_
  · unfold rowN
    rw [List.pairwise_append]
    refine ⟨List.Pairwise.sublist List.filter_sublist (endS_lt _ _), outL_lt _ _ _ _, fun a ha b hb => ?_⟩
    have h1 := (mem_endsF.1 (mem_endS.1 (List.mem_filter.1 ha).1).1).2.1
    obtain ⟨j, _, e, _⟩ := mem_outL.1 hb
    omega
  · unfold rowN
    rw [mem_endS, more_end, more_len, more_sp, List.mem_append, List.mem_filter, mem_outL, mem_endS, mem_endsF]
    constructor
    · rintro ⟨⟨h1, h2, h3, h4⟩, h5⟩
      rcases h5 with h5 | ⟨j, j1, j2, j3⟩
      · have hb := (spW_set hc1 hs f.lots.length (Nat.le_refl _)).2 t h5
        exact .inl ⟨⟨⟨h1, hb.2, h3⟩, h5⟩, by simpa using h4⟩
      · exact .inr ⟨j, j1, j2, by rw [hcan]; exact j3⟩
    · rintro (⟨⟨⟨h1, h2, h3⟩, h4⟩, h5⟩ | ⟨j, j1, j2, j3⟩)
      · exact ⟨⟨h1, by omega, h3, by simpa using h5⟩, .inl h4⟩
      · have hbef := befF_mono (f := f) (Nat.le_refl f.lots.length)
        obtain ⟨z1, z2, z3, z4, _⟩ := checkF_zero hc1
        refine ⟨⟨by omega, by omega, fun hm => ?_, fun hm => ?_⟩, .inr ⟨j, j1, j2, by rw [← hcan]; exact j3⟩⟩
        · have := gone_lt hc1 (k := f.lots.length) (Nat.le_refl _) _ hm
          omega
        · have := hg.fr _ hm
          omega
theorem more_small (hc : checkF (moreF f x) = 0) : befF f f.lots.length + (x.inn.length : Int) ≤ 50000 := by
  obtain ⟨_, _, z3, _, _⟩ := checkF_zero hc
  rw [more_len] at z3
  have hb := befF_succ (f := moreF f x) (k := f.lots.length) (by rw [more_len]; omega)
  have h2 := take_bef (f := moreF f x) (k := f.lots.length) (i := f.lots.length) (Nat.le_refl _)
  rw [take_more] at h2
  rw [more_at, ← h2] at hb
  omega
/-- the senders that change -/
def chgL (f : FlowP) (x : LotP) (k : Nat) : List Int := ((List.range k).filter fun s : Nat => someM x (endS f s)).map fun s : Nat => (s : Int)
theorem chgL_succ (f : FlowP) (x : LotP) (k : Nat) : chgL f x (k + 1) = if someM x (endS f k) = true then chgL f x k ++ [(k : Int)] else chgL f x k := by
  unfold chgL
  rw [List.range_succ, List.filter_append, List.map_append]
  by_cases h : someM x (endS f k) = true <;> simp [h]
theorem chgL_len (f : FlowP) (x : LotP) (k : Nat) : (chgL f x k).length ≤ k := by
  unfold chgL
  rw [List.length_map]
  exact Nat.le_trans (List.length_filter_le _ _) (by simp)
theorem someM_iff (hc : checkF (moreF f x) = 0) {s : Nat} (hs : (s : Int) < f.senders) : someM x (endS f s) = !decide (endS (moreF f x) s = endS f s) := by
  have hg := more_good hc
  rw [endS_more hc hs]
  cases h : someM x (endS f s) with
  | true => rw [decide_eq_false (rowN_some h fun t ht => (hg.fr t ht).2.1)]; rfl
  | false => rw [decide_eq_true (rowN_none h)]; rfl
/-- the rows while the lot is added -/
def mixA (f : FlowP) (x : LotP) (N k : Nat) : List (List Int) := (List.range N).map fun s : Nat => if s < k then endS (moreF f x) s else endS f s
theorem mixA_len (f : FlowP) (x : LotP) (N k : Nat) : (mixA f x N k).length = N := by simp [mixA]
theorem mixA_zero (f : FlowP) (x : LotP) (N : Nat) : matA f N = mixA f x N 0 := by
  unfold matA mixA
  exact List.map_congr_left fun s _ => by rw [if_neg (by omega)]
theorem mixA_all (f : FlowP) (x : LotP) (N : Nat) : mixA f x N N = matA (moreF f x) N := by
  unfold matA mixA
  exact List.map_congr_left fun s hs => by rw [if_pos (by simpa using hs)]
theorem mixA_set {N k : Nat} : (mixA f x N k).set k (endS (moreF f x) k) = mixA f x N (k + 1) := by
  refine List.ext_getElem? fun i => ?_
  unfold mixA
  by_cases hi : i = k
  · subst hi
    by_cases hk : i < N
    · rw [List.getElem?_set_self (by simpa using hk), List.getElem?_map, List.getElem?_range hk, Option.map_some, if_pos (by omega)]
    · rw [List.getElem?_eq_none (by simpa using hk), List.getElem?_eq_none (by simpa using hk)]
  · rw [List.getElem?_set_ne (Ne.symm hi), List.getElem?_map, List.getElem?_map]
    by_cases hn : i < N
    · rw [List.getElem?_range hn, Option.map_some, Option.map_some]
      congr 1
      by_cases h : i < k
      · rw [if_pos h, if_pos (by omega)]
      · rw [if_neg h, if_neg (by omega)]
    · rw [List.getElem?_eq_none (by simpa using hn)]; rfl
theorem mixA_skip {N k : Nat} (hk : k < N) (h : endS (moreF f x) k = endS f k) : mixA f x N k = mixA f x N (k + 1) := by
  unfold mixA
  refine List.map_congr_left fun s hs => ?_
  by_cases h1 : s < k
  · rw [if_pos h1, if_pos (by omega)]
  · by_cases h2 : s = k
    · subst h2; rw [if_neg h1, if_pos (by omega), h]
    · rw [if_neg h1, if_neg (by omega)]
end
/-- the outs that are reached, as the code marks them -/
def outJ (x : LotP) (ends : List Int) (j : Nat) : List Bool := (List.range x.inn.length).map (canB x (ends.take j))
theorem outJ_len (x : LotP) (ends : List Int) (j : Nat) : (outJ x ends j).length = x.inn.length := by simp [outJ]
theorem outJ_zero (x : LotP) (ends : List Int) : List.replicate x.inn.length false = outJ x ends 0 := by
  unfold outJ
  rw [List.take_zero]
  refine (List.eq_replicate_iff.2 ⟨by rw [List.length_map, List.length_range], fun b hb => ?_⟩).symm
  obtain ⟨k, _, rfl⟩ := List.mem_map.1 hb
  exact canB_none (fun i _ h => by cases h) k
theorem take_mem {l : List Int} {j : Nat} (h : j < l.length) {t : Int} : t ∈ l.take (j + 1) ↔ t ∈ l.take j ∨ t = l.getD j 0 := by
  rw [List.take_succ_eq_append_getElem h, List.mem_append, List.mem_singleton]
  have : l.getD j 0 = l[j] := by simp [List.getD, h]
  rw [this]
/-- an end that goes into no spot of the lot -/
theorem outJ_not {x : LotP} {ends : List Int} {j : Nat} (hj : j < ends.length) (h : ends.getD j 0 ∉ x.inn) : outJ x ends (j + 1) = outJ x ends j := by
  unfold outJ
  refine List.map_congr_left fun k _ => ?_
  rw [Bool.eq_iff_iff, canB_iff, canB_iff]
  refine exists_congr fun i => and_congr_right fun hi => and_congr_left fun _ => ?_
  rw [take_mem hj]
  refine ⟨fun h1 => h1.resolve_right fun e => h ?_, Or.inl⟩
  rw [← e]; exact getD_mem hi
/-- .. of a known lot -/
theorem outJ_known {x : LotP} {ends : List Int} {j i : Nat} (hj : j < ends.length) (hk : x.known = true) (hn : x.inn.Nodup) (hi : i < x.inn.length) (he : ends.getD j 0 = x.inn.getD i 0) (hp : 0 ≤ x.perm.getD i 0) :
    (outJ x ends j).set (x.perm.getD i 0).toNat true = outJ x ends (j + 1) := by
  refine List.ext_getElem? fun k => ?_
  have step : ∀ k : Nat, canB x (ends.take (j + 1)) k = (canB x (ends.take j) k || decide ((k : Int) = x.perm.getD i 0)) := fun k => by
    rw [Bool.eq_iff_iff, Bool.or_eq_true, canB_iff, canB_iff, decide_eq_true_eq]
    constructor
    · rintro ⟨i', h1, h2, h3⟩
      rcases (take_mem hj).1 h2 with h2 | h2
      · exact .inl ⟨i', h1, h2, h3⟩
      · have : i' = i := getD_inj hn h1 hi (h2.trans he)
        subst this
        exact .inr (h3.resolve_left (by rw [hk]; simp)).symm
    · rintro (⟨i', h1, h2, h3⟩ | h)
      · exact ⟨i', h1, (take_mem hj).2 (.inl h2), h3⟩
      · exact ⟨i, hi, (take_mem hj).2 (.inr he.symm), .inr h.symm⟩
  unfold outJ
  by_cases hkk : k = (x.perm.getD i 0).toNat
  · subst hkk
    by_cases hl : (x.perm.getD i 0).toNat < x.inn.length
    · rw [List.getElem?_set_self (by simpa using hl), List.getElem?_map, List.getElem?_range hl, Option.map_some, step, decide_eq_true (by omega), Bool.or_true]
    · rw [List.getElem?_eq_none (by simpa using hl), List.getElem?_eq_none (by simpa using hl)]
  · rw [List.getElem?_set_ne (fun e => hkk e.symm), List.getElem?_map, List.getElem?_map]
    by_cases hl : k < x.inn.length
    · rw [List.getElem?_range hl, Option.map_some, Option.map_some, step, decide_eq_false (by omega), Bool.or_false]
    · rw [List.getElem?_eq_none (by simpa using hl)]; rfl
/-- .. of an unknown lot -/
theorem outJ_unk {x : LotP} {ends : List Int} {j i : Nat} (hj : j < ends.length) (hk : x.known = false) (hi : i < x.inn.length) (he : ends.getD j 0 = x.inn.getD i 0) : outJ x ends (j + 1) = List.replicate x.inn.length true := by
  unfold outJ
  rw [List.eq_replicate_iff]
  refine ⟨by simp, fun b hb => ?_⟩
  obtain ⟨k, _, rfl⟩ := List.mem_map.1 hb
  exact canB_iff.2 ⟨i, hi, (take_mem hj).2 (.inr he.symm), .inl hk⟩
theorem outJ_get {x : LotP} {ends : List Int} {k : Nat} (hk : k < x.inn.length) : (outJ x ends ends.length).getD k false = canB x ends k := by
  unfold outJ
  rw [List.getD, List.getElem?_map, List.getElem?_range hk, List.take_length]; rfl
/-- the first k set -/
def setT' (o : List Bool) (k : Nat) : List Bool := List.replicate k true ++ o.drop k
theorem setT_succ {o : List Bool} {k : Nat} (h : k < o.length) : (setT' o k).set k true = setT' o (k + 1) := by
  unfold setT'
  rw [List.set_append_right _ _ (by simp), List.length_replicate, Nat.sub_self, List.replicate_succ', List.append_assoc]
  congr 1
  rw [List.drop_eq_getElem_cons h]
  rfl
theorem setT_len {o : List Bool} {k : Nat} (h : k ≤ o.length) : (setT' o k).length = o.length := by
  unfold setT'
  rw [List.length_append, List.length_replicate, List.length_drop]; omega
theorem setT_all (o : List Bool) : setT' o o.length = List.replicate o.length true := by simp [setT']
theorem someM_take {x : LotP} {ends : List Int} {j : Nat} (hj : j < ends.length) : someM x (ends.take (j + 1)) = (someM x (ends.take j) || decide (ends.getD j 0 ∈ x.inn)) := by
  unfold someM
  rw [List.take_succ_eq_append_getElem hj, List.any_append]
  have : ends.getD j 0 = ends[j] := by simp [List.getD, hj]
  rw [this]
  simp
def keepJ (x : LotP) (ends : List Int) (j : Nat) : List Int := (ends.take j).filter fun t => !decide (t ∈ x.inn)
theorem keepJ_succ {x : LotP} {ends : List Int} {j : Nat} (hj : j < ends.length) : keepJ x ends (j + 1) = if ends.getD j 0 ∈ x.inn then keepJ x ends j else keepJ x ends j ++ [ends.getD j 0] := by
  unfold keepJ
  have : ends.getD j 0 = ends[j] := by simp [List.getD, hj]
  rw [List.take_succ_eq_append_getElem hj, List.filter_append, this]
  by_cases h : ends[j] ∈ x.inn
  · rw [if_pos h]; simp [h]
  · rw [if_neg h]; simp [h]
theorem keepJ_len (x : LotP) (ends : List Int) (j : Nat) : (keepJ x ends j).length ≤ ends.length := by
  unfold keepJ
  refine Nat.le_trans (List.length_filter_le _ _) ?_
  rw [List.length_take]; omega
theorem keepJ_all (x : LotP) (ends : List Int) : keepJ x ends ends.length = ends.filter fun t => !decide (t ∈ x.inn) := by
  unfold keepJ
  rw [List.take_length]
end Go.Proofs.Ytnlaiaklafjamaa


namespace Go.Proofs.Ytnlaiaklafjamaa
set_option linter.unusedSimpArgs false
set_option linter.unusedVariables false
open Go.RowKit
set_option maxRecDepth 100000
set_option maxHeartbeats 4000000
def idxP (p : Nat → Bool) (n : Nat) : Int := match (List.range n).find? p with
  | some i => i
  | none => -1
theorem idxP_hit {p : Nat → Bool} {n k : Nat} (hk : k < n) (h : p k = true) (h0 : ∀ i, i < k → p i = false) : idxP p n = k := by
  have : (List.range n).find? p = some k := by
    rw [List.find?_range_eq_some]
    exact ⟨h, by simpa using hk, fun j hj => by rw [h0 j hj]; rfl⟩
  rw [idxP, this]
theorem idxP_miss {p : Nat → Bool} {n : Nat} (h0 : ∀ i, i < n → p i = false) : idxP p n = -1 := by
  have : (List.range n).find? p = none := by
    rw [List.find?_eq_none]
    intro i hi
    rw [h0 i (by simpa using hi)]; simp
  rw [idxP, this]
theorem idxP_any (p : Nat → Bool) (n : Nat) : decide (idxP p n ≥ 0) = (List.range n).any p := by
  unfold idxP
  cases h : (List.range n).find? p with
  | some i =>
    rw [decide_eq_true (by show (i : Int) ≥ 0; omega)]
    have := List.find?_some h
    have hm := List.mem_of_find?_eq_some h
    exact (List.any_eq_true.2 ⟨i, hm, this⟩).symm
  | none =>
    rw [decide_eq_false (by show ¬ (-1 : Int) ≥ 0; omega)]
    rw [List.find?_eq_none] at h
    exact (List.any_eq_false.2 h).symm
theorem mem_getD {α : Type} {l : List α} {d : α} {k : Nat} (h : k < l.length) : l.getD k d ∈ l := by
  rw [List.getD, List.getElem?_eq_getElem h]; simp
theorem any_getD {α : Type} (l : List α) (d : α) (p : α → Bool) : ((List.range l.length).any fun k => p (l.getD k d)) = l.any p := by
  rw [Bool.eq_iff_iff, List.any_eq_true, List.any_eq_true]
  constructor
  · rintro ⟨i, hi, h⟩
    have hi : i < l.length := by simpa using hi
    have e : l.getD i d = l[i] := by simp [List.getD, hi]
    rw [e] at h
    exact ⟨_, List.getElem_mem hi, h⟩
  · rintro ⟨x, hx, h⟩
    obtain ⟨i, hi, rfl⟩ := List.getElem_of_mem hx
    refine ⟨i, by simpa using hi, ?_⟩
    have e : l.getD i d = l[i] := by simp [List.getD, hi]
    rw [e]; exact h
theorem ints_index (l : List Int) (p : Int → Bool) (hl : l.length ≤ 140737488351232) : Spec Try.prog 61 [aIs l, .one (.x (FnR Try.prog (FnM aI p l)))] (.r1 (aI (idxP (fun k => p (l.getD k 0)) l.length))) := by
  refine spec_of T_ok Try.func61 (by dsimp only [Try.f61]) rfl rfl (by simp) fun w F => ?_
  obtain ⟨Pk, hPk⟩ : ∃ Pk : Nat → Bool, Pk = (fun k => p (l.getD k 0)) := ⟨_, rfl⟩
  rw [← hPk]
  repeat' (first
    | (with_reducible refine aw_seq ?_)
    | ((with_reducible refine twoG_intro ?_ ?_) <;> intro hTw <;> first | (exact Bool.noConfusion hTw) | ((try simp only [hTw, Bool.not_true, Bool.not_false, Bool.true_and, Bool.false_and, Bool.and_true, Bool.and_false, Bool.true_or, Bool.false_or, Bool.or_true, Bool.or_false]); (first | (guard_hyp hTw : true = true; clear hTw) | (guard_hyp hTw : false = false; clear hTw) | (revert hTw; intro _))))
    | ((with_reducible refine two_intro ?_ ?_) <;> intro hTw <;> first | (exact Bool.noConfusion hTw) | ((first | (guard_hyp hTw : true = true; clear hTw) | (guard_hyp hTw : false = false; clear hTw) | (revert hTw; intro _))))
    | ((with_reducible refine And.intro ?_ ?_); (focus (first | omega | rfl | decide | grind)))
    | (with_reducible refine aw_block ?_)
    | (with_reducible refine aw_scope ?_)
    | ((first
        | ((with_reducible refine aw_regionA T_ok ?_ ?_); (focus kernel_rfl))
        | ((with_reducible refine aw_drawnA T_ok ?_ ?_ ?_ ?_); (focus kernel_rfl); (focus kernel_rfl); (focus (decide +kernel)))
        | ((with_reducible refine aw_drawnF T_ok ?_ ?_ ?_ ?_); (focus kernel_rfl); (focus kernel_rfl); (focus (decide +kernel)))
        | (with_reducible refine aw_label ?_)
        | ((with_reducible refine aw_rfM ?_ ?_); (focus kernel_rfl))
        | (with_reducible refine aw_skip ?_)
        | (with_reducible refine aw_exit ?_)
        | ((with_reducible refine aw_condM ?_ ?_); (focus kernel_rfl))
        | (with_reducible refine aw_ret ?_)
      ); simp only [↓avP, avQ, if_true, if_false, forall_const, beq_self_eq_true, eq_self, ne_eq, implies_true, reduceIte, Nat.reduceEqDiff, Nat.reduceAdd, Nat.reduceSub, Int.reduceToNat, Nat.reduceLeDiff, Nat.reduceLT, reduceCtorEq, Int.reduceEq, retQ, retL, resV, RetV, RetOk, SubL, intD_B, lotD_B, snocI, ty_3, ty_28, ty_4, ty_30, ty_22, ty_25, issD_get]; try simp (disch := omega) only [av_w, av_t1, av_tp, Int.toNat_natCast]))
  refine aw_loopI (fun k : Nat => ⟨[(0, vIs l), (1, .d (.x (FnR Try.prog (FnM aI p l)))), (7, vI l.length), (8, vI k)], [], 0⟩) (fun k => k ≤ l.length ∧ ∀ i, i < k → Pk i = false) (fun k => l.length - k) 0 ⟨Nat.zero_le _, fun i hi => absurd hi (Nat.not_lt_zero i)⟩ (wk_of [] rfl rfl ?_ ?_) ?_
  · simp only [wkT, wkB, wkB1, subV, subVs, subD, subB, lkN_n, lkN_c, lkT_n, lkT_c, lkB_n, lkB_c, if_true, if_false, reduceIte, Nat.reduceEqDiff, true_and, and_true, and_self, inT, ofA]
    (repeat' (first | exact trivial | rfl | exact rfl | exact subVs_d _ _ | exact subVs_dm _ _ | exact subD_refl _ | refine And.intro ?_ ?_))
  · simp only [wkT, wkB, wkB1, subV, subVs, subD, subB, lkN_n, lkN_c, lkT_n, lkT_c, lkB_n, lkB_c, if_true, if_false, reduceIte, Nat.reduceEqDiff, true_and, and_true, and_self, inT, ofA]
  rintro k ⟨hk, h0⟩
  rcases Nat.lt_or_ge k l.length with hlt | hge
  · have hd := ltd hlt
    cases hp : p (l.getD k 0) with
    | false =>
      repeat' (first
        | (with_reducible refine aw_seq ?_)
        | ((with_reducible refine twoG_intro ?_ ?_) <;> intro hTw <;> first | (exact Bool.noConfusion hTw) | ((try simp only [hTw, Bool.not_true, Bool.not_false, Bool.true_and, Bool.false_and, Bool.and_true, Bool.and_false, Bool.true_or, Bool.false_or, Bool.or_true, Bool.or_false]); (first | (guard_hyp hTw : true = true; clear hTw) | (guard_hyp hTw : false = false; clear hTw) | (revert hTw; intro _))))
        | ((with_reducible refine two_intro ?_ ?_) <;> intro hTw <;> first | (exact Bool.noConfusion hTw) | ((first | (guard_hyp hTw : true = true; clear hTw) | (guard_hyp hTw : false = false; clear hTw) | (revert hTw; intro _))))
        | ((with_reducible refine And.intro ?_ ?_); (focus (first | omega | rfl | decide | grind)))
        | (with_reducible refine aw_block ?_)
        | (with_reducible refine aw_scope ?_)
        | ((first
            | ((with_reducible refine aw_regionA T_ok ?_ ?_); (focus kernel_rfl))
            | ((with_reducible refine aw_drawnA T_ok ?_ ?_ ?_ ?_); (focus kernel_rfl); (focus kernel_rfl); (focus (decide +kernel)))
            | ((with_reducible refine aw_drawnF T_ok ?_ ?_ ?_ ?_); (focus kernel_rfl); (focus kernel_rfl); (focus (decide +kernel)))
            | ((with_reducible refine slotX_M ((l.getD k 0)) ((mem_getD hlt)) (by with_unfolding_all rfl) ?_ ?_); (focus kernel_rfl))
            | (with_reducible refine aw_label ?_)
            | ((with_reducible refine aw_rfM ?_ ?_); (focus kernel_rfl))
            | (with_reducible refine aw_skip ?_)
            | (with_reducible refine aw_exit ?_)
            | ((with_reducible refine aw_condM ?_ ?_); (focus kernel_rfl))
            | (with_reducible refine aw_ret ?_)
          ); simp only [↓avP, avQ, if_true, if_false, forall_const, beq_self_eq_true, eq_self, ne_eq, implies_true, reduceIte, Nat.reduceEqDiff, Nat.reduceAdd, Nat.reduceSub, Int.reduceToNat, Nat.reduceLeDiff, Nat.reduceLT, reduceCtorEq, Int.reduceEq, retQ, retL, resV, RetV, RetOk, SubL, intD_B, lotD_B, snocI, ty_3, ty_28, ty_4, ty_30, ty_22, ty_25, issD_get, hd, hp]; try simp (disch := omega) only [av_w, av_t1, av_tp, Int.toNat_natCast]))
      refine ⟨k + 1, ⟨by omega, fun i hi => by rcases Nat.lt_succ_iff_lt_or_eq.1 hi with h | rfl; exact h0 i h; rw [hPk]; exact hp⟩, by dsimp only; omega, wk_of [] rfl rfl ?_ ?_⟩
      · simp only [wkT, wkB, wkB1, subV, subVs, subD, subB, lkN_n, lkN_c, lkT_n, lkT_c, lkB_n, lkB_c, if_true, if_false, reduceIte, Nat.reduceEqDiff, true_and, and_true, and_self, inT, ofA]
        (repeat' (first | exact trivial | rfl | exact rfl | exact subVs_d _ _ | exact subVs_dm _ _ | exact subD_refl _ | refine And.intro ?_ ?_))
      · simp only [wkT, wkB, wkB1, subV, subVs, subD, subB, lkN_n, lkN_c, lkT_n, lkT_c, lkB_n, lkB_c, if_true, if_false, reduceIte, Nat.reduceEqDiff, true_and, and_true, and_self, inT, ofA]
    | true =>
      repeat' (first
        | (with_reducible refine aw_seq ?_)
        | ((with_reducible refine twoG_intro ?_ ?_) <;> intro hTw <;> first | (exact Bool.noConfusion hTw) | ((try simp only [hTw, Bool.not_true, Bool.not_false, Bool.true_and, Bool.false_and, Bool.and_true, Bool.and_false, Bool.true_or, Bool.false_or, Bool.or_true, Bool.or_false]); (first | (guard_hyp hTw : true = true; clear hTw) | (guard_hyp hTw : false = false; clear hTw) | (revert hTw; intro _))))
        | ((with_reducible refine two_intro ?_ ?_) <;> intro hTw <;> first | (exact Bool.noConfusion hTw) | ((first | (guard_hyp hTw : true = true; clear hTw) | (guard_hyp hTw : false = false; clear hTw) | (revert hTw; intro _))))
        | ((with_reducible refine And.intro ?_ ?_); (focus (first | omega | rfl | decide | grind)))
        | (with_reducible refine aw_block ?_)
        | (with_reducible refine aw_scope ?_)
        | ((first
            | ((with_reducible refine aw_regionA T_ok ?_ ?_); (focus kernel_rfl))
            | ((with_reducible refine aw_drawnA T_ok ?_ ?_ ?_ ?_); (focus kernel_rfl); (focus kernel_rfl); (focus (decide +kernel)))
            | ((with_reducible refine aw_drawnF T_ok ?_ ?_ ?_ ?_); (focus kernel_rfl); (focus kernel_rfl); (focus (decide +kernel)))
            | ((with_reducible refine slotX_M ((l.getD k 0)) ((mem_getD hlt)) (by with_unfolding_all rfl) ?_ ?_); (focus kernel_rfl))
            | (with_reducible refine aw_label ?_)
            | ((with_reducible refine aw_rfM ?_ ?_); (focus kernel_rfl))
            | (with_reducible refine aw_skip ?_)
            | (with_reducible refine aw_exit ?_)
            | ((with_reducible refine aw_condM ?_ ?_); (focus kernel_rfl))
            | (with_reducible refine aw_ret ?_)
          ); simp only [↓avP, avQ, if_true, if_false, forall_const, beq_self_eq_true, eq_self, ne_eq, implies_true, reduceIte, Nat.reduceEqDiff, Nat.reduceAdd, Nat.reduceSub, Int.reduceToNat, Nat.reduceLeDiff, Nat.reduceLT, reduceCtorEq, Int.reduceEq, retQ, retL, resV, RetV, RetOk, SubL, intD_B, lotD_B, snocI, ty_3, ty_28, ty_4, ty_30, ty_22, ty_25, issD_get, hd, hp]; try simp (disch := omega) only [av_w, av_t1, av_tp, Int.toNat_natCast]))
      exact Sub.of_eq (congrArg aI (idxP_hit hlt (by rw [hPk]; exact hp) h0).symm)
  · obtain rfl : k = l.length := by omega
    have hd := ged (Nat.le_refl l.length)
    repeat' (first
      | (with_reducible refine aw_seq ?_)
      | ((with_reducible refine twoG_intro ?_ ?_) <;> intro hTw <;> first | (exact Bool.noConfusion hTw) | ((try simp only [hTw, Bool.not_true, Bool.not_false, Bool.true_and, Bool.false_and, Bool.and_true, Bool.and_false, Bool.true_or, Bool.false_or, Bool.or_true, Bool.or_false]); (first | (guard_hyp hTw : true = true; clear hTw) | (guard_hyp hTw : false = false; clear hTw) | (revert hTw; intro _))))
      | ((with_reducible refine two_intro ?_ ?_) <;> intro hTw <;> first | (exact Bool.noConfusion hTw) | ((first | (guard_hyp hTw : true = true; clear hTw) | (guard_hyp hTw : false = false; clear hTw) | (revert hTw; intro _))))
      | ((with_reducible refine And.intro ?_ ?_); (focus (first | omega | rfl | decide | grind)))
      | (with_reducible refine aw_block ?_)
      | (with_reducible refine aw_scope ?_)
      | ((first
          | ((with_reducible refine aw_regionA T_ok ?_ ?_); (focus kernel_rfl))
          | ((with_reducible refine aw_drawnA T_ok ?_ ?_ ?_ ?_); (focus kernel_rfl); (focus kernel_rfl); (focus (decide +kernel)))
          | ((with_reducible refine aw_drawnF T_ok ?_ ?_ ?_ ?_); (focus kernel_rfl); (focus kernel_rfl); (focus (decide +kernel)))
          | (with_reducible refine aw_label ?_)
          | ((with_reducible refine aw_rfM ?_ ?_); (focus kernel_rfl))
          | (with_reducible refine aw_skip ?_)
          | (with_reducible refine aw_exit ?_)
          | ((with_reducible refine aw_condM ?_ ?_); (focus kernel_rfl))
          | (with_reducible refine aw_ret ?_)
        ); simp only [↓avP, avQ, if_true, if_false, forall_const, beq_self_eq_true, eq_self, ne_eq, implies_true, reduceIte, Nat.reduceEqDiff, Nat.reduceAdd, Nat.reduceSub, Int.reduceToNat, Nat.reduceLeDiff, Nat.reduceLT, reduceCtorEq, Int.reduceEq, retQ, retL, resV, RetV, RetOk, SubL, intD_B, lotD_B, snocI, ty_3, ty_28, ty_4, ty_30, ty_22, ty_25, issD_get, hd]; try simp (disch := omega) only [av_w, av_t1, av_tp, Int.toNat_natCast]))
    exact Sub.of_eq (congrArg aI (idxP_miss h0).symm)
theorem ints_contains (l : List Int) (p : Int → Bool) (hl : l.length ≤ 140737488351232) : Spec Try.prog 59 [aIs l, .one (.x (FnR Try.prog (FnM aI p l)))] (.r1 (aB (l.any p))) := by
  refine spec_of T_ok Try.func59 (by dsimp only [Try.f59]) rfl rfl (by simp) fun w F => ?_
  repeat' (first
    | (with_reducible refine aw_seq ?_)
    | ((with_reducible refine twoG_intro ?_ ?_) <;> intro hTw <;> first | (exact Bool.noConfusion hTw) | ((try simp only [hTw, Bool.not_true, Bool.not_false, Bool.true_and, Bool.false_and, Bool.and_true, Bool.and_false, Bool.true_or, Bool.false_or, Bool.or_true, Bool.or_false]); (first | (guard_hyp hTw : true = true; clear hTw) | (guard_hyp hTw : false = false; clear hTw) | (revert hTw; intro _))))
    | ((with_reducible refine two_intro ?_ ?_) <;> intro hTw <;> first | (exact Bool.noConfusion hTw) | ((first | (guard_hyp hTw : true = true; clear hTw) | (guard_hyp hTw : false = false; clear hTw) | (revert hTw; intro _))))
    | ((with_reducible refine And.intro ?_ ?_); (focus (first | omega | rfl | decide | grind)))
    | (with_reducible refine aw_block ?_)
    | (with_reducible refine aw_scope ?_)
    | ((first
        | ((with_reducible refine aw_regionA T_ok ?_ ?_); (focus kernel_rfl))
        | ((with_reducible refine aw_drawnA T_ok ?_ ?_ ?_ ?_); (focus kernel_rfl); (focus kernel_rfl); (focus (decide +kernel)))
        | ((with_reducible refine aw_drawnF T_ok ?_ ?_ ?_ ?_); (focus kernel_rfl); (focus kernel_rfl); (focus (decide +kernel)))
        | ((with_reducible refine callK_intro (ints_index l p hl) (by with_unfolding_all rfl) ?_ ?_); (focus kernel_rfl))
        | ((with_reducible refine callI_spec (ints_index l p hl) (by with_unfolding_all rfl) ?_ ?_ ?_); (focus kernel_rfl); (focus kernel_rfl))
        | (with_reducible refine aw_label ?_)
        | ((with_reducible refine aw_rfM ?_ ?_); (focus kernel_rfl))
        | (with_reducible refine aw_skip ?_)
        | (with_reducible refine aw_exit ?_)
        | ((with_reducible refine aw_condM ?_ ?_); (focus kernel_rfl))
        | (with_reducible refine aw_ret ?_)
      ); simp only [↓avP, avQ, if_true, if_false, forall_const, beq_self_eq_true, eq_self, ne_eq, implies_true, reduceIte, Nat.reduceEqDiff, Nat.reduceAdd, Nat.reduceSub, Int.reduceToNat, Nat.reduceLeDiff, Nat.reduceLT, reduceCtorEq, Int.reduceEq, retQ, retL, resV, RetV, RetOk, SubL, intD_B, lotD_B, snocI, ty_3, ty_28, ty_4, ty_30, ty_22, ty_25, issD_get]; try simp (disch := omega) only [av_w, av_t1, av_tp, Int.toNat_natCast]))
  exact Sub.of_eq (congrArg aB (by rw [idxP_any, any_getD]))
end Go.Proofs.Ytnlaiaklafjamaa

