import Derived.Test.YtlnkmaejiceloaaHL22
namespace Go.Proofs.Ytlnkmaejiceloaa
set_option linter.unusedSimpArgs false
set_option linter.unusedVariables false
open Go.RowKit
theorem chL_mem {off : Nat} : ∀ (k : Nat) (c r : List Int), isCo off (c ++ r) → r.length = k → c ++ r ∈ chL off k c
  | 0, c, r, h, hr => by
    rw [List.length_eq_zero_iff.1 hr, List.append_nil, chL]; simp
  | k + 1, c, [], h, hr => by cases hr
  | k + 1, c, i :: r, h, hr => by
    rw [List.length_cons] at hr
    have hi := h.2 i (by simp)
    have hp := List.pairwise_append.1 h.1
    have hn : nextC c ≤ i.toNat := by
      rcases List.eq_nil_or_concat c with rfl | ⟨m, z, rfl⟩
      · simp [nextC]
      · rw [List.concat_eq_append] at *
        have hz := h.2 z (by simp)
        have hn : nextC (m ++ [z]) = z.toNat + 1 := by
          unfold nextC
          rw [if_neg (by simp)]
          simp [List.getD]
        have := hp.2.2 z (by simp) i (by simp)
        rw [hn]; omega
    have e : c ++ i :: r = (c ++ [((i.toNat : Nat) : Int)]) ++ r := by
      rw [List.append_assoc, show ((i.toNat : Nat) : Int) = i by omega]; rfl
    rw [e] at h ⊢
    rw [chL, List.mem_flatMap]
    exact ⟨i.toNat, List.mem_range'_1.2 ⟨hn, by omega⟩, chL_mem k _ r h (by omega)⟩
theorem chL_pre {off : Nat} : ∀ (k : Nat) (c x : List Int), x ∈ chL off k c → ∃ r, x = c ++ r
  | 0, c, x, h => by rw [chL, List.mem_singleton] at h; exact ⟨[], by simp [h]⟩
  | k + 1, c, x, h => by
    rw [chL, List.mem_flatMap] at h
    obtain ⟨i, _, h⟩ := h
    obtain ⟨r, hr⟩ := chL_pre k _ x h
    exact ⟨(i : Int) :: r, by rw [hr, List.append_assoc]; rfl⟩
theorem mem_allL {off : Nat} {x : List Int} : x ∈ allL off (off + 1) ↔ isCo off x := by
  constructor
  · exact fun h => (allL_co h).1
  · intro h
    unfold allL
    rw [List.mem_flatMap]
    have := h.len
    exact ⟨x.length, List.mem_range.2 (by omega), by have := chL_mem x.length [] x h rfl; exact this⟩
theorem ltL_app (c : List Int) {i j : Int} (h : i < j) (a b : List Int) : ltL (c ++ i :: a) (c ++ j :: b) = true := by
  induction c with
  | nil =>
    rw [List.nil_append, List.nil_append, ltL, if_neg (by omega)]
    exact decide_eq_true h
  | cons z c ih => rw [List.cons_append, List.cons_append, ltL, if_pos rfl]; exact ih
theorem chL_sorted {off : Nat} : ∀ (k : Nat) (c : List Int), isCo off c → (chL off k c).Pairwise fun a b => lessC a b = true
  | 0, c, _ => by rw [chL]; exact List.pairwise_singleton _ _
  | k + 1, c, h => by
    rw [chL, List.pairwise_flatMap]
    refine ⟨fun i hi => ?_, ?_⟩
    · rw [List.mem_range'_1] at hi
      exact chL_sorted k _ (h.snoc hi.1 (by omega))
    · refine List.Pairwise.imp_of_mem ?_ (List.pairwise_lt_range' (s := nextC c) (n := off - nextC c))
      intro i j hi hj hij x hx y hy
      rw [List.mem_range'_1] at hi hj
      have lx := (chL_co k _ (h.snoc hi.1 (by omega)) x hx).2
      have ly := (chL_co k _ (h.snoc hj.1 (by omega)) y hy).2
      obtain ⟨r1, rfl⟩ := chL_pre k _ x hx
      obtain ⟨r2, rfl⟩ := chL_pre k _ y hy
      have hl : (c ++ [(i : Int)] ++ r1).length = (c ++ [(j : Int)] ++ r2).length := by
        rw [lx, ly, List.length_append, List.length_append]; rfl
      rw [lessC, if_pos hl, List.append_assoc, List.append_assoc]
      exact ltL_app c (by omega) r1 r2
theorem allL_sorted {off n : Nat} : (allL off n).Pairwise fun a b => lessC a b = true := by
  unfold allL
  rw [List.pairwise_flatMap]
  refine ⟨fun k _ => chL_sorted k [] (isCo.nil off), ?_⟩
  refine List.Pairwise.imp ?_ (List.pairwise_lt_range (n := n))
  intro i j hij x hx y hy
  have lx := (chL_co i [] (isCo.nil off) x hx).2
  have ly := (chL_co j [] (isCo.nil off) y hy).2
  rw [List.length_nil] at lx ly
  rw [lessC, if_neg (by omega)]
  exact decide_eq_true (by omega)
theorem lessC_len {a b : List Int} (h : lessC a b = true) : a.length ≤ b.length := by
  unfold lessC at h
  split at h
  · omega
  · have := of_decide_eq_true h; omega
theorem ltL_irr : ∀ a : List Int, ltL a a = false
  | [] => rfl
  | x :: a => by rw [ltL, if_pos rfl]; exact ltL_irr a
theorem lessC_irr (a : List Int) : lessC a a = false := by rw [lessC, if_pos rfl]; exact ltL_irr a
theorem ltL_asymm : ∀ {a b : List Int}, ltL a b = true → ltL b a = false
  | [], b, h => by cases b <;> simp [ltL] at h
  | x :: a, [], h => by simp [ltL] at h
  | x :: a, y :: b, h => by
    rw [ltL] at h ⊢
    by_cases e : x = y
    · rw [if_pos e] at h
      rw [if_pos e.symm]; exact ltL_asymm h
    · rw [if_neg e] at h
      rw [if_neg (Ne.symm e)]
      have := of_decide_eq_true h
      exact decide_eq_false (by omega)
theorem lessC_asymm {a b : List Int} (h : lessC a b = true) : lessC b a = false := by
  unfold lessC at h ⊢
  by_cases e : a.length = b.length
  · rw [if_pos e] at h
    rw [if_pos e.symm]; exact ltL_asymm h
  · rw [if_neg e] at h
    rw [if_neg (Ne.symm e)]
    have := of_decide_eq_true h
    exact decide_eq_false (by omega)
theorem inc_eq : ∀ {a b : List Int}, a.Pairwise (· < ·) → b.Pairwise (· < ·) → (∀ z ∈ a, z ∈ b) → b.length ≤ a.length → a = b
  | [], b, _, _, _, hl => by
    rw [List.length_nil] at hl
    exact (List.length_eq_zero_iff.1 (by omega)).symm
  | x :: a, [], _, _, h, _ => by have := h x (by simp); cases this
  | x :: a, y :: b, ha, hb, h, hl => by
    obtain ⟨a1, a2⟩ := List.pairwise_cons.1 ha
    obtain ⟨b1, b2⟩ := List.pairwise_cons.1 hb
    have hxy : x = y := by
      rcases List.mem_cons.1 (h x (by simp)) with e | e
      · exact e
      · -- then all of x :: a lie in b, which is shorter
        have h2 : ∀ z ∈ x :: a, z ∈ b := fun z hz => by
          rcases List.mem_cons.1 (h z hz) with e2 | e2
          · have h3 := b1 x e
            rcases List.mem_cons.1 hz with e4 | e4
            · omega
            · have := a1 z e4; omega
          · exact e2
        have := nd_len (List.Pairwise.imp (fun {a b} h => by omega) ha) h2
        simp only [List.length_cons] at this hl
        omega
    subst hxy
    congr 1
    refine inc_eq a2 b2 (fun z hz => ?_) (by simpa using hl)
    rcases List.mem_cons.1 (h z (by simp [hz])) with e | e
    · have := a1 z hz; omega
    · exact e
structure KeepOk (off : Nat) (bk : List Int → Bool) (p L : List (List Int)) : Prop where
  sub : L.Sublist p
  brk : ∀ x ∈ L, bk x = true
  min : ∀ x ∈ L, ∀ y ∈ p, bk y = true → (∀ z ∈ y, z ∈ x) → y = x
  cov : ∀ x ∈ p, bk x = true → ∃ y ∈ L, ∀ z ∈ y, z ∈ x
theorem coverB_iff {L : List (List Int)} {x : List Int} : coverB L x = true ↔ ∃ y ∈ L, ∀ z ∈ y, z ∈ x := by
  unfold coverB
  simp only [List.any_eq_true, List.all_eq_true, decide_eq_true_eq]
theorem keep_step {off : Nat} {brk : List Int → Bool} {p L : List (List Int)} {x : List Int} (h : KeepOk off brk p L) (hp : ∀ y ∈ p, isCo off y ∧ lessC y x = true) (hx : isCo off x) : KeepOk off brk (p ++ [x]) (stepL brk L x) := by
  have key : ∀ w ∈ L, (∀ z ∈ x, z ∈ w) → x = w := fun w hw hz => by
    have hwp := hp w (h.sub.subset hw)
    exact inc_eq hx.1 hwp.1.1 hz (lessC_len hwp.2)
  unfold stepL
  cases hc : coverB L x with
  | true =>
    rw [if_neg (by simp)]
    obtain ⟨y, hy, hyx⟩ := coverB_iff.1 hc
    refine ⟨h.sub.trans (List.sublist_append_left _ _), h.brk, fun w hw y hy hb hs => ?_, fun w hw hb => ?_⟩
    · rcases List.mem_append.1 hy with hy | hy
      · exact h.min w hw y hy hb hs
      · rw [List.mem_singleton.1 hy] at hs ⊢
        exact key w hw hs
    · rcases List.mem_append.1 hw with hw | hw
      · exact h.cov w hw hb
      · rw [List.mem_singleton.1 hw]; exact ⟨y, hy, hyx⟩
  | false =>
    cases hb : brk x with
    | false =>
      rw [if_neg (by simp)]
      refine ⟨h.sub.trans (List.sublist_append_left _ _), h.brk, fun w hw y hy hb' hs => ?_, fun w hw hb' => ?_⟩
      · rcases List.mem_append.1 hy with hy | hy
        · exact h.min w hw y hy hb' hs
        · rw [List.mem_singleton.1 hy, hb] at hb'; cases hb'
      · rcases List.mem_append.1 hw with hw | hw
        · exact h.cov w hw hb'
        · rw [List.mem_singleton.1 hw, hb] at hb'; cases hb'
    | true =>
      rw [if_pos (by simp)]
      refine ⟨h.sub.append (List.Sublist.refl _), fun w hw => ?_, fun w hw y hy hb' hs => ?_, fun w hw hb' => ?_⟩
      · rcases List.mem_append.1 hw with hw | hw
        · exact h.brk w hw
        · rw [List.mem_singleton.1 hw]; exact hb
      · rcases List.mem_append.1 hw with hw | hw
        · rcases List.mem_append.1 hy with hy | hy
          · exact h.min w hw y hy hb' hs
          · rw [List.mem_singleton.1 hy] at hs ⊢
            exact key w hw hs
        · rw [List.mem_singleton.1 hw] at hs ⊢
          rcases List.mem_append.1 hy with hy | hy
          · obtain ⟨v, hv, hvy⟩ := h.cov y hy hb'
            have : coverB L x = true := coverB_iff.2 ⟨v, hv, fun z hz => hs z (hvy z hz)⟩
            rw [hc] at this; cases this
          · exact List.mem_singleton.1 hy
      · rcases List.mem_append.1 hw with hw | hw
        · obtain ⟨v, hv, h2⟩ := h.cov w hw hb'
          exact ⟨v, by simp [hv], h2⟩
        · rw [List.mem_singleton.1 hw]; exact ⟨x, by simp, fun z hz => hz⟩
theorem keep_ok {off : Nat} {brk : List Int → Bool} : ∀ (xs p L : List (List Int)), KeepOk off brk p L → (∀ y ∈ p ++ xs, isCo off y) → (p ++ xs).Pairwise (fun a b => lessC a b = true) → KeepOk off brk (p ++ xs) (keepL brk L xs)
  | [], p, L, h, _, _ => by rw [List.append_nil]; exact h
  | x :: xs, p, L, h, hc, hs => by
    have hs2 := List.pairwise_append.1 hs
    have h1 := keep_step h (fun y hy => ⟨hc y (by simp [hy]), hs2.2.2 y hy x (by simp)⟩) (hc x (by simp))
    have e : p ++ x :: xs = (p ++ [x]) ++ xs := by simp
    rw [e] at hc hs ⊢
    exact keep_ok xs (p ++ [x]) (stepL brk L x) h1 hc hs
theorem least_keep {f : FlowP} {lines : List (List Int)} {o s need : Int} (h : errL f lines o s = 0) : KeepOk o.toNat (fun x => brkB f lines x s need) (allL o.toNat (o.toNat + 1)) (leastR f lines o s need) := by
  rw [leastR, if_pos h]
  have := keep_ok (off := o.toNat) (brk := fun x => brkB f lines x s need) (allL o.toNat (o.toNat + 1)) [] [] ⟨List.Sublist.refl _, fun x hx => (by cases hx), fun x hx => (by cases hx), fun x hx => (by cases hx)⟩ (fun y hy => mem_allL.1 (by simpa using hy)) (by rw [List.nil_append]; exact allL_sorted)
  rw [List.nil_append] at this
  exact this
theorem least_sorted {f : FlowP} {lines : List (List Int)} {o s need : Int} (h : errL f lines o s = 0) : (leastR f lines o s need).Pairwise fun a b => lessC a b = true :=
  allL_sorted.sublist (least_keep (need := need) h).sub
end Go.Proofs.Ytlnkmaejiceloaa


namespace Go.Proofs.Ytlnkmaejiceloaa
set_option linter.unusedSimpArgs false
set_option linter.unusedVariables false
open Go.RowKit
theorem sorted_ext : ∀ {a b : List (List Int)}, a.Pairwise (fun x y => lessC x y = true) → b.Pairwise (fun x y => lessC x y = true) → (∀ z, z ∈ a ↔ z ∈ b) → a = b
  | [], [], _, _, _ => rfl
  | [], y :: b, _, _, h => by have := (h y).2 (by simp); cases this
  | x :: a, [], _, _, h => by have := (h x).1 (by simp); cases this
  | x :: a, y :: b, ha, hb, h => by
    obtain ⟨a1, a2⟩ := List.pairwise_cons.1 ha
    obtain ⟨b1, b2⟩ := List.pairwise_cons.1 hb
    have hxy : x = y := by
      rcases List.mem_cons.1 ((h x).1 (by simp)) with e | e
      · exact e
      rcases List.mem_cons.1 ((h y).2 (by simp)) with e2 | e2
      · exact e2.symm
      have h1 := lessC_asymm (b1 x e)
      rw [a1 y e2] at h1; cases h1
    subst hxy
    congr 1
    refine sorted_ext a2 b2 fun z => ⟨fun hz => ?_, fun hz => ?_⟩
    · rcases List.mem_cons.1 ((h z).1 (by simp [hz])) with e | e
      · have := a1 z hz; rw [e, lessC_irr] at this; cases this
      · exact e
    · rcases List.mem_cons.1 ((h z).2 (by simp [hz])) with e | e
      · have := b1 z hz; rw [e, lessC_irr] at this; cases this
      · exact e
theorem ltL_total : ∀ {a b : List Int}, a.length = b.length → a ≠ b → ltL a b = false → ltL b a = true
  | [], [], _, h, _ => (h rfl).elim
  | [], _ :: _, h, _, _ => by simp at h
  | _ :: _, [], h, _, _ => by simp at h
  | x :: a, y :: b, hl, hne, h => by
    rw [ltL] at h ⊢
    by_cases e : x = y
    · rw [if_pos e] at h
      rw [if_pos e.symm]
      exact ltL_total (by simpa using hl) (fun e2 => hne (by rw [e, e2])) h
    · rw [if_neg e] at h
      rw [if_neg (Ne.symm e)]
      have := of_decide_eq_false h
      exact decide_eq_true (by omega)
theorem lessC_total {a b : List Int} (hne : a ≠ b) (h : lessC a b = false) : lessC b a = true := by
  unfold lessC at h ⊢
  by_cases e : a.length = b.length
  · rw [if_pos e] at h
    rw [if_pos e.symm]
    exact ltL_total e hne h
  · rw [if_neg e] at h
    rw [if_neg (Ne.symm e)]
    have := of_decide_eq_false h
    exact decide_eq_true (by omega)
theorem ltL_trans : ∀ {a b c : List Int}, ltL a b = true → ltL b c = true → ltL a c = true
  | [], b, c, h, _ => by cases b <;> simp [ltL] at h
  | x :: a, [], c, h, _ => by simp [ltL] at h
  | x :: a, y :: b, [], _, h => by simp [ltL] at h
  | x :: a, y :: b, z :: c, h1, h2 => by
    rw [ltL] at h1 h2 ⊢
    by_cases e1 : x = y
    · rw [if_pos e1] at h1
      by_cases e2 : y = z
      · rw [if_pos e2] at h2
        rw [if_pos (e1.trans e2)]; exact ltL_trans h1 h2
      · rw [if_neg e2] at h2
        rw [if_neg (by rw [e1]; exact e2), e1]; exact h2
    · rw [if_neg e1] at h1
      have h3 := of_decide_eq_true h1
      by_cases e2 : y = z
      · rw [if_neg (by rw [← e2]; exact e1), ← e2]; exact h1
      · rw [if_neg e2] at h2
        have h4 := of_decide_eq_true h2
        rw [if_neg (by omega)]
        exact decide_eq_true (by omega)
theorem lessC_trans {a b c : List Int} (h1 : lessC a b = true) (h2 : lessC b c = true) : lessC a c = true := by
  have l1 := lessC_len h1
  have l2 := lessC_len h2
  by_cases e : a.length = c.length
  · unfold lessC at h1 h2 ⊢
    rw [if_pos (by omega)] at h1 h2
    rw [if_pos e]; exact ltL_trans h1 h2
  · rw [lessC, if_neg e]; exact decide_eq_true (by omega)
theorem insL_sorted {x : List Int} : ∀ {l : List (List Int)}, l.Pairwise (fun x y => lessC x y = true) → x ∉ l → (insL x l).Pairwise fun x y => lessC x y = true
  | [], _, _ => by rw [insL]; exact List.pairwise_singleton _ _
  | y :: l, h, hx => by
    obtain ⟨h1, h2⟩ := List.pairwise_cons.1 h
    rw [insL]
    split
    · rename_i hl
      refine List.pairwise_cons.2 ⟨fun z hz => ?_, insL_sorted h2 (fun e => hx (by simp [e]))⟩
      rcases (mem_insL x z l).1 hz with e | e
      · rw [e]; exact hl
      · exact h1 z e
    · rename_i hl
      have hxy : lessC x y = true := lessC_total (fun e => hx (by simp [e])) (by simpa using hl)
      refine List.pairwise_cons.2 ⟨fun z hz => ?_, h⟩
      rcases List.mem_cons.1 hz with e | e
      · rw [e]; exact hxy
      · exact lessC_trans hxy (h1 z e)
def maskL (x : List Int) : Nat := x.foldr (fun z m => m ||| 2 ^ z.toNat) 0
theorem mask_bit {x : List Int} (h : ∀ z ∈ x, 0 ≤ z) (i : Nat) : (maskL x).testBit i = decide ((i : Int) ∈ x) := by
  induction x with
  | nil => simp [maskL]
  | cons a x ih =>
    have ha := h a (by simp)
    have h1 := ih (fun z hz => h z (by simp [hz]))
    show (maskL x ||| 2 ^ a.toNat).testBit i = _
    rw [Nat.testBit_or, h1, Nat.testBit_two_pow]
    rw [Bool.eq_iff_iff]
    simp only [Bool.or_eq_true, decide_eq_true_eq, List.mem_cons]
    constructor
    · rintro (h | h)
      · exact .inr h
      · left; omega
    · rintro (h | h)
      · right; omega
      · exact .inl h
theorem mask_lt {x : List Int} {o : Nat} (h : isCo o x) : maskL x < 2 ^ o :=
  Nat.lt_pow_two_of_testBit _ fun i hi => by
    rw [mask_bit (fun z hz => (h.2 z hz).1), decide_eq_false_iff_not]
    intro hm
    have := (h.2 _ hm).2
    omega
theorem set_mask {x : List Int} {o : Nat} (h : isCo o x) : setL (maskL x) o = x := by
  have hm : ∀ z, z ∈ setL (maskL x) o ↔ z ∈ x := fun z => by
    rw [mem_setL]
    constructor
    · rintro ⟨i, rfl, _, hb⟩
      rw [mask_bit (fun z hz => (h.2 z hz).1)] at hb
      exact of_decide_eq_true hb
    · intro hz
      have := h.2 z hz
      refine ⟨z.toNat, by omega, by omega, ?_⟩
      rw [mask_bit (fun z hz => (h.2 z hz).1), show ((z.toNat : Nat) : Int) = z by omega]
      exact decide_eq_true hz
  have hs := setL_co (maskL x) o
  exact inc_eq hs.1 h.1 (fun z hz => (hm z).1 hz) (nd_len (List.Pairwise.imp (fun {a b} h => by omega) h.1) fun z hz => (hm z).2 hz)
theorem setL_inj {a b o : Nat} (ha : a < 2 ^ o) (hb : b < 2 ^ o) (h : setL a o = setL b o) : a = b := by
  refine Nat.eq_of_testBit_eq fun i => ?_
  rcases Nat.lt_or_ge i o with hi | hi
  · rw [Bool.eq_iff_iff]
    constructor
    · intro h1
      obtain ⟨j, h2, _, h3⟩ := mem_setL.1 (h ▸ mem_setL.2 ⟨i, rfl, hi, h1⟩ : (i : Int) ∈ setL b o)
      rw [show i = j by omega]; exact h3
    · intro h1
      obtain ⟨j, h2, _, h3⟩ := mem_setL.1 (h ▸ mem_setL.2 ⟨i, rfl, hi, h1⟩ : (i : Int) ∈ setL a o)
      rw [show i = j by omega]; exact h3
  · have hp : 2 ^ o ≤ 2 ^ i := Nat.pow_le_pow_right (by decide) hi
    rw [Nat.testBit_lt_two_pow (by omega), Nat.testBit_lt_two_pow (by omega)]
def allS (brk : List Int → Bool) (o k : Nat) : List (List Int) := ((List.range k).map fun b => setL b o).filter brk
theorem allS_yes {brk : List Int → Bool} {o k : Nat} (h : brk (setL k o) = true) : allS brk o (k + 1) = allS brk o k ++ [setL k o] := by
  simp [allS, List.range_succ, List.filter_append, h]
theorem allS_no {brk : List Int → Bool} {o k : Nat} (h : brk (setL k o) = false) : allS brk o (k + 1) = allS brk o k := by
  simp [allS, List.range_succ, List.filter_append, h]
theorem allS_len (brk : List Int → Bool) (o k : Nat) : (allS brk o k).length ≤ k := by
  unfold allS
  have := List.length_filter_le brk ((List.range k).map fun b => setL b o)
  rwa [List.length_map, List.length_range] at this
theorem allS_co {brk : List Int → Bool} {o k : Nat} {x : List Int} (h : x ∈ allS brk o k) : isCo o x := by
  unfold allS at h
  simp only [List.mem_filter, List.mem_map, List.mem_range] at h
  obtain ⟨⟨b, _, rfl⟩, _⟩ := h
  exact setL_co b o
theorem mem_allS {brk : List Int → Bool} {o : Nat} {x : List Int} : x ∈ allS brk o (2 ^ o) ↔ isCo o x ∧ brk x = true := by
  unfold allS
  simp only [List.mem_filter, List.mem_map, List.mem_range]
  constructor
  · rintro ⟨⟨b, _, rfl⟩, h⟩; exact ⟨setL_co b o, h⟩
  · rintro ⟨h1, h2⟩; exact ⟨⟨maskL x, mask_lt h1, set_mask h1⟩, h2⟩
theorem allS_nd {brk : List Int → Bool} {o : Nat} : (allS brk o (2 ^ o)).Nodup := by
  unfold allS
  refine List.Pairwise.filter _ ?_
  rw [List.pairwise_map]
  refine List.Pairwise.imp_of_mem ?_ (List.pairwise_lt_range (n := 2 ^ o))
  intro a b ha hb hab he
  rw [List.mem_range] at ha hb
  have := setL_inj ha hb he
  omega
def minB (all : List (List Int)) (i : Nat) : Bool := (List.range all.length).all fun k => k == i || !((all.getD k []).all fun z => decide (z ∈ all.getD i []))
def outS (all : List (List Int)) : Nat → List (List Int)
  | 0 => []
  | k + 1 => if minB all k = true then insL (all.getD k []) (outS all k) else outS all k
theorem mem_outS {all : List (List Int)} {z : List Int} : ∀ k, z ∈ outS all k ↔ ∃ i, i < k ∧ minB all i = true ∧ z = all.getD i []
  | 0 => by simp [outS]
  | k + 1 => by
    rw [outS]
    by_cases h : minB all k = true
    · rw [if_pos h, mem_insL, mem_outS k]
      constructor
      · rintro (e | ⟨i, h1, h2, h3⟩)
        · exact ⟨k, by omega, h, e⟩
        · exact ⟨i, by omega, h2, h3⟩
      · rintro ⟨i, h1, h2, h3⟩
        rcases Nat.lt_succ_iff_lt_or_eq.1 h1 with h4 | rfl
        · exact .inr ⟨i, h4, h2, h3⟩
        · exact .inl h3
    · rw [if_neg h, mem_outS k]
      constructor
      · rintro ⟨i, h1, h2, h3⟩; exact ⟨i, by omega, h2, h3⟩
      · rintro ⟨i, h1, h2, h3⟩
        rcases Nat.lt_succ_iff_lt_or_eq.1 h1 with h4 | rfl
        · exact ⟨i, h4, h2, h3⟩
        · exact (h h2).elim
theorem nd_getD {all : List (List Int)} (h : all.Nodup) {i k : Nat} (hi : i < all.length) (hk : k < all.length) (he : all.getD i [] = all.getD k []) : i = k := by
  simp only [List.getD, List.getElem?_eq_getElem hi, List.getElem?_eq_getElem hk, Option.getD_some] at he
  have hp := List.pairwise_iff_getElem.1 h
  rcases Nat.lt_trichotomy i k with h1 | h1 | h1
  · exact (hp i k hi hk h1 he).elim
  · exact h1
  · exact (hp k i hk hi h1 he.symm).elim
theorem outS_sorted {all : List (List Int)} (h : all.Nodup) : ∀ k, k ≤ all.length → (outS all k).Pairwise fun x y => lessC x y = true
  | 0, _ => List.Pairwise.nil
  | k + 1, hk => by
    rw [outS]
    split
    · refine insL_sorted (outS_sorted h k (by omega)) fun hm => ?_
      obtain ⟨i, h1, _, h3⟩ := (mem_outS k).1 hm
      have := nd_getD h (show k < all.length by omega) (show i < all.length by omega) h3
      omega
    · exact outS_sorted h k (by omega)
theorem outS_len (all : List (List Int)) : ∀ k, (outS all k).length ≤ k
  | 0 => Nat.le_refl 0
  | k + 1 => by
    have := outS_len all k
    rw [outS]
    split
    · rw [insL_len]; omega
    · omega
theorem out_least {f : FlowP} {lines : List (List Int)} {o : Nat} {s need : Int} (h : errL f lines o s = 0) : outS (allS (fun x => brkB f lines x s need) o (2 ^ o)) (allS (fun x => brkB f lines x s need) o (2 ^ o)).length = leastR f lines o s need := by
  have hK := least_keep (need := need) h
  rw [Int.toNat_natCast] at hK
  have hA : ∀ x, x ∈ allS (fun x => brkB f lines x s need) o (2 ^ o) ↔ isCo o x ∧ brkB f lines x s need = true := fun x => mem_allS
  have hN : (allS (fun x => brkB f lines x s need) o (2 ^ o)).Nodup := allS_nd
  refine sorted_ext (outS_sorted hN _ (Nat.le_refl _)) (least_sorted h) fun z => ?_
  generalize allS (fun x => brkB f lines x s need) o (2 ^ o) = all at hA hN
  rw [mem_outS]
  constructor
  · rintro ⟨i, h1, h2, rfl⟩
    have hz := (hA _).1 (mem_getD (d := []) h1)
    obtain ⟨y, hy, hyz⟩ := hK.cov _ (mem_allL.2 hz.1) hz.2
    have hya : y ∈ all := (hA y).2 ⟨mem_allL.1 (hK.sub.subset hy), hK.brk y hy⟩
    obtain ⟨k, hk, rfl⟩ := List.getElem_of_mem hya
    unfold minB at h2
    rw [List.all_eq_true] at h2
    have h3 := h2 k (List.mem_range.2 hk)
    have e : all.getD k [] = all[k] := by simp [List.getD, hk]
    have h4 : ((all.getD k []).all fun z => decide (z ∈ all.getD i [])) = true := by
      rw [e, List.all_eq_true]
      exact fun w hw => decide_eq_true (hyz w hw)
    rw [h4, Bool.not_true, Bool.or_false, beq_iff_eq] at h3
    rw [← h3, e]; exact hy
  · intro hz
    have hzc : isCo o z := mem_allL.1 (hK.sub.subset hz)
    have hza : z ∈ all := (hA z).2 ⟨hzc, hK.brk z hz⟩
    obtain ⟨i, hi, rfl⟩ := List.getElem_of_mem hza
    have e : all.getD i [] = all[i] := by simp [List.getD, hi]
    refine ⟨i, hi, ?_, e.symm⟩
    unfold minB
    rw [List.all_eq_true]
    intro k hk
    rw [List.mem_range] at hk
    rw [Bool.or_eq_true, beq_iff_eq]
    by_cases hki : k = i
    · exact .inl hki
    · right
      cases hc : (all.getD k []).all fun z => decide (z ∈ all.getD i []) with
      | false => rfl
      | true =>
        have hka := (hA _).1 (mem_getD (d := []) hk)
        have := hK.min _ hz _ (mem_allL.2 hka.1) hka.2 (fun w hw => by rw [← e]; exact of_decide_eq_true (List.all_eq_true.1 hc w hw))
        exact (hki (nd_getD hN hk hi (by rw [this, e]))).elim
end Go.Proofs.Ytlnkmaejiceloaa

