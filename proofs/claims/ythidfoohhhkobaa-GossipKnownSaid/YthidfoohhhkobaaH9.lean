import Derived.Test.YthidfoohhhkobaaH4
namespace Go.Proofs.Ythidfoohhhkobaa
set_option linter.unusedSimpArgs false
set_option linter.unusedVariables false
open Go.RowKit
structure Pk where
  frm : Int
  to_ : Int
  data : List UInt8
  deriving DecidableEq
instance : Inhabited Pk := ⟨⟨0, 0, []⟩⟩
def pkD (x : Pk) : List D := [.c (.int .i64 x.frm), .c (.int .i64 x.to_), bsD x.data]
theorem pkD_len (x : Pk) : (dV (pkD x)).length = 3 := rfl
theorem pkD_take (x : Pk) : (dV (pkD x)).take 3 = dV (pkD x) := rfl
theorem pkD_ln (x : Pk) : (pkD x).length = 3 := rfl
theorem pkD_hd (x : Pk) : (dV (pkD x)).head? = some (.d (.c (.int .i64 x.frm))) := rfl
theorem pkD_ic (x : Pk) : (dV (pkD x)).length = 3 := rfl
theorem pkD_d1 (x : Pk) : (dV (pkD x)).drop 1 = [.d (.c (.int .i64 x.to_)), .d (bsD x.data)] := rfl
theorem pkD_d2 (x : Pk) : (dV (pkD x)).drop 2 = [.d (bsD x.data)] := rfl
set_option linter.defProp false in
def pkD_B := And.intro @pkD_len ( And.intro @pkD_take ( And.intro @pkD_hd ( And.intro @pkD_ln ( And.intro @pkD_ic ( And.intro @pkD_d1 (@pkD_d2))))))
abbrev Pr := Int × Int
def prD (x : Pr) : List D := [.c (.int .i64 x.1), .c (.int .i64 x.2)]
theorem prD_len (x : Pr) : (dV (prD x)).length = 2 := rfl
theorem prD_take (x : Pr) : (dV (prD x)).take 2 = dV (prD x) := rfl
theorem prD_ln (x : Pr) : (prD x).length = 2 := rfl
theorem prD_hd (x : Pr) : (dV (prD x)).head? = some (.d (.c (.int .i64 x.1))) := rfl
theorem prD_ic (x : Pr) : icells (dV (prD x)) = some [x.1, x.2] := rfl
theorem prD_d1 (x : Pr) : (dV (prD x)).drop 1 = [.d (.c (.int .i64 x.2))] := rfl
set_option linter.defProp false in
def prD_B := And.intro @prD_len ( And.intro @prD_take ( And.intro @prD_hd ( And.intro @prD_ln ( And.intro @prD_ic (@prD_d1)))))
set_option maxRecDepth 100000
set_option maxHeartbeats 4000000
theorem eqT_pair : EqT Try.prog 93 (List.replicate 2 .i64) 2 := by
  cases hi : Try.prog.info? 3 with
  | none => exact absurd hi (by decide +kernel)
  | some i => exact eqT_arr (e := 3) (by kernel_rfl) Try.underlying3 hi (by kernel_rfl) (by kernel_rfl)
theorem eqPair : EqInts Try.prog 93 2 := eqI_of (eqK_of eqT_pair (by omega) (fun w => by unfold Go.isAgg; rw [Sem.run_bind, run_underlying Try.underlying93 w]; rfl) (by kernel_rfl))
def idxP (p : Nat → Bool) (n : Nat) : Int := match (List.range n).find? p with
  | some i => i
  | none => -1
theorem idxP_hit {p : Nat → Bool} {n k : Nat} (hk : k < n) (h : p k = true) (h0 : ∀ i, i < k → p i = false) : idxP p n = k := by
  have : (List.range n).find? p = some k := by
    rw [List.find?_range_eq_some]
    exact ⟨h, by simpa using hk, fun j hj => by rw [h0 j hj]; rfl⟩
  rw [idxP, this]
theorem idxP_miss {p : Nat → Bool} {n : Nat} (h0 : ∀ i, i < n → p i = false) : idxP p n = -1 := by
  have : (List.range n).find? p = none := by
    rw [List.find?_eq_none]
    intro i hi
    rw [h0 i (by simpa using hi)]; simp
  rw [idxP, this]
theorem idxP_any (p : Nat → Bool) (n : Nat) : decide (idxP p n ≥ 0) = (List.range n).any p := by
  unfold idxP
  cases h : (List.range n).find? p with
  | some i =>
    rw [decide_eq_true (by show (i : Int) ≥ 0; omega)]
    have := List.find?_some h
    have hm := List.mem_of_find?_eq_some h
    exact (List.any_eq_true.2 ⟨i, hm, this⟩).symm
  | none =>
    rw [decide_eq_false (by show ¬ (-1 : Int) ≥ 0; omega)]
    rw [List.find?_eq_none] at h
    exact (List.any_eq_false.2 h).symm
theorem mem_getD {α : Type} {l : List α} {d : α} {k : Nat} (h : k < l.length) : l.getD k d ∈ l := by
  rw [List.getD, List.getElem?_eq_getElem h]; simp
theorem any_getD {α : Type} (l : List α) (d : α) (p : α → Bool) : ((List.range l.length).any fun k => p (l.getD k d)) = l.any p := by
  rw [Bool.eq_iff_iff, List.any_eq_true, List.any_eq_true]
  constructor
  · rintro ⟨i, hi, h⟩
    have hi : i < l.length := by simpa using hi
    have e : l.getD i d = l[i] := by simp [List.getD, hi]
    rw [e] at h
    exact ⟨_, List.getElem_mem hi, h⟩
  · rintro ⟨x, hx, h⟩
    obtain ⟨i, hi, rfl⟩ := List.getElem_of_mem hx
    refine ⟨i, by simpa using hi, ?_⟩
    have e : l.getD i d = l[i] := by simp [List.getD, hi]
    rw [e]; exact h
abbrev aPk (x : Pk) : A := .agg (pkD x)
abbrev aPks (l : List Pk) : A := .one (.sl 3 (pkD default) (l.map pkD))
abbrev vPks (l : List Pk) : V := .d (.sl 3 (pkD default) (l.map pkD))
abbrev aPrs (l : List (Int × Int)) : A := .one (.sl 2 (prD default) (l.map prD))
abbrev vPrs (l : List (Int × Int)) : V := .d (.sl 2 (prD default) (l.map prD))
theorem pks_index (l : List Pk) (p : Pk → Bool) (hl : l.length ≤ 140737488351232) : Spec Try.prog 70 [aPks l, .one (.x (FnR Try.prog (FnM aPk p l)))] (.r1 (aI (idxP (fun k => p (l.getD k default)) l.length))) := by
  refine spec_of T_ok Try.func70 (by dsimp only [Try.f70]) rfl rfl (by simp) fun w F => ?_
  obtain ⟨Pk, hPk⟩ : ∃ Pk : Nat → Bool, Pk = (fun k => p (l.getD k default)) := ⟨_, rfl⟩
  rw [← hPk]
  repeat' (first | (with_reducible refine aw_seq ?_) | (with_reducible refine aw_block ?_) | ((first | ((with_reducible refine aw_regionA T_ok ?_ ?_); kernel_rfl) | (with_reducible refine aw_ret ?_) ); simp only [↓avP, avQ, avR, forall_const, implies_true, Nat.reduceEqDiff, Nat.reduceAdd, reduceCtorEq, avS, ty_26, ty_27]; try simp (disch := omega) only [av_w, av_t1, av_tp, Int.toNat_natCast]))
  refine aw_loopI (fun k : Nat => ⟨[(0, vPks l), (1, .d (.x (FnR Try.prog (FnM aPk p l)))), (7, vI l.length), (8, vI k)], [], 0⟩) (fun k => k ≤ l.length ∧ ∀ i, i < k → Pk i = false) (fun k => l.length - k) 0 ⟨Nat.zero_le _, fun i hi => absurd hi (Nat.not_lt_zero i)⟩ (wk_of [] rfl rfl ?_ ?_) ?_
  · simp only [wkA, reduceIte, Nat.reduceEqDiff]
    (repeat' (first | rfl | exact subVs_d _ _))
  · simp only [wkA, reduceIte, Nat.reduceEqDiff]
  rintro k ⟨hk, h0⟩
  rcases Nat.lt_or_ge k l.length with hlt | hge
  · have hd := ltd hlt
    cases hp : p (l.getD k default) with
    | false =>
      repeat' (first | (with_reducible refine aw_seq ?_) | ((with_reducible refine two_intro ?_ ?_) <;> intro h <;> first | contradiction | ((first | (guard_hyp h : true = true; clear h) | (guard_hyp h : false = false; clear h)))) | ((with_reducible refine And.intro ?_ ?_); (focus (omega))) | (with_reducible refine aw_block ?_) | ((first | ((with_reducible refine aw_regionA T_ok ?_ ?_); kernel_rfl) | ((with_reducible refine slotX_M ((l.getD k default)) ((mem_getD hlt)) (by with_unfolding_all rfl) ?_ ?_); kernel_rfl) | (with_reducible refine aw_skip ?_) | ((with_reducible refine aw_condM ?_ ?_); kernel_rfl) | (with_reducible refine aw_ret ?_) ); simp only [↓avP, avQ, avR, forall_const, implies_true, Nat.reduceEqDiff, Nat.reduceLeDiff, reduceCtorEq, pkD_B, ty_63, ty_26, hd, hp]; try simp (disch := omega) only [av_w, av_t1, av_tp, Int.toNat_natCast]))
      refine ⟨k + 1, ⟨by omega, fun i hi => by rcases Nat.lt_succ_iff_lt_or_eq.1 hi with h | rfl; exact h0 i h; rw [hPk]; exact hp⟩, by dsimp only; omega, wk_of [] rfl rfl ?_ ?_⟩
      · simp only [wkA, reduceIte, Nat.reduceEqDiff]
        (repeat' (first | rfl | exact subVs_d _ _))
      · simp only [wkA, reduceIte, Nat.reduceEqDiff]
    | true =>
      repeat' (first | (with_reducible refine aw_seq ?_) | ((with_reducible refine two_intro ?_ ?_) <;> intro h <;> first | contradiction | ((first | (guard_hyp h : true = true; clear h) | (guard_hyp h : false = false; clear h)))) | ((with_reducible refine And.intro ?_ ?_); (focus (omega))) | (with_reducible refine aw_block ?_) | ((first | ((with_reducible refine aw_regionA T_ok ?_ ?_); kernel_rfl) | ((with_reducible refine slotX_M ((l.getD k default)) ((mem_getD hlt)) (by with_unfolding_all rfl) ?_ ?_); kernel_rfl) | (with_reducible refine aw_skip ?_) | ((with_reducible refine aw_condM ?_ ?_); kernel_rfl) | (with_reducible refine aw_ret ?_) ); simp only [↓avP, avQ, avR, forall_const, implies_true, Nat.reduceEqDiff, Nat.reduceLeDiff, reduceCtorEq, pkD_B, ty_63, ty_26, hd, hp]; try simp (disch := omega) only [av_w, av_t1, av_tp, Int.toNat_natCast]))
      exact Sub.of_eq (congrArg aI (idxP_hit hlt (by rw [hPk]; exact hp) h0).symm)
  · obtain rfl : k = l.length := by omega
    have hd := ged (Nat.le_refl l.length)
    repeat' (first | (with_reducible refine aw_seq ?_) | ((with_reducible refine two_intro ?_ ?_) <;> intro h <;> first | contradiction | (((guard_hyp h : false = false; clear h)))) | ((first | ((with_reducible refine aw_regionA T_ok ?_ ?_); kernel_rfl) | (with_reducible refine aw_exit ?_) | ((with_reducible refine aw_condM ?_ ?_); kernel_rfl) | (with_reducible refine aw_ret ?_) ); simp only [↓avP, avQ, avR, forall_const, implies_true, Nat.reduceEqDiff, reduceCtorEq, avS, hd]; try simp (disch := omega) only [av_w, av_t1, av_tp, Int.toNat_natCast]))
    exact Sub.of_eq (congrArg aI (idxP_miss h0).symm)
theorem pks_contains (l : List Pk) (p : Pk → Bool) (hl : l.length ≤ 140737488351232) : Spec Try.prog 50 [aPks l, .one (.x (FnR Try.prog (FnM aPk p l)))] (.r1 (aB (l.any p))) := by
  refine spec_of T_ok Try.func50 (by dsimp only [Try.f50]) rfl rfl (by simp) fun w F => ?_
  repeat' (first | (with_reducible refine aw_seq ?_) | ((first | ((with_reducible refine aw_regionA T_ok ?_ ?_); kernel_rfl) | ((with_reducible refine callI_spec (pks_index l p hl) (by with_unfolding_all rfl) ?_ ?_ ?_); kernel_rfl; kernel_rfl) | (with_reducible refine aw_ret ?_) ); simp only [↓avP, avQ, avR, forall_const, implies_true, Nat.reduceEqDiff, Nat.reduceAdd, reduceCtorEq, avS]; try simp (disch := omega) only [av_w, av_t1, av_tp, Int.toNat_natCast]))
  exact Sub.of_eq (congrArg aB (by rw [idxP_any, any_getD]))
theorem pr_eq (a b : Int × Int) : ([a.1, a.2] == [b.1, b.2]) = (a == b) := by
  rw [Bool.eq_iff_iff]
  simp [Prod.ext_iff]
theorem prs_index (l : List (Int × Int)) (v : Int × Int) (hl : l.length ≤ 140737488351232) : Spec Try.prog 86 [aPrs l, .agg (prD v)] (.r1 (aI (idxP (fun k => v == l.getD k default) l.length))) := by
  refine spec_of T_ok Try.func86 (by dsimp only [Try.f86]) rfl rfl (by simp) fun w F => ?_
  obtain ⟨Pk, hPk⟩ : ∃ Pk : Nat → Bool, Pk = fun k => v == l.getD k default := ⟨_, rfl⟩
  rw [← hPk]
  repeat' (first | (with_reducible refine aw_seq ?_) | (with_reducible refine aw_block ?_) | ((first | ((with_reducible refine aw_regionA T_ok ?_ ?_); kernel_rfl) | (with_reducible refine aw_ret ?_) ); simp only [↓avP, avQ, avR, forall_const, implies_true, Nat.reduceEqDiff, Nat.reduceAdd, reduceCtorEq, avS, ty_26, ty_27]; try simp (disch := omega) only [av_w, av_t1, av_tp, Int.toNat_natCast]))
  refine aw_loopI (fun k : Nat => ⟨[(0, vPrs l), (3, .ptr 0 0), (7, vI l.length), (8, vI k)], [(0, .cells 93 (dV (prD v)))], 1⟩) (fun k => k ≤ l.length ∧ ∀ i, i < k → Pk i = false) (fun k => l.length - k) 0 ⟨Nat.zero_le _, fun i hi => absurd hi (Nat.not_lt_zero i)⟩ (wk_of [(0, some 0)] rfl rfl ?_ ?_) ?_
  · simp only [wkA, reduceIte, Nat.reduceEqDiff]
    (repeat' (first | rfl | exact subVs_d _ _))
  · simp only [wkA, reduceIte, Nat.reduceEqDiff]
    (repeat' (first | rfl | exact subVs_d _ _))
  rintro k ⟨hk, h0⟩
  rcases Nat.lt_or_ge k l.length with hlt | hge
  · have hd := ltd hlt
    cases hp : v == l.getD k default with
    | false =>
      repeat' (first | (with_reducible refine aw_seq ?_) | ((with_reducible refine two_intro ?_ ?_) <;> intro h <;> first | contradiction | ((first | (guard_hyp h : true = true; clear h) | (guard_hyp h : false = false; clear h)))) | ((with_reducible refine And.intro ?_ ?_); (focus (first | exact eqPair | omega))) | (with_reducible refine aw_block ?_) | ((first | ((with_reducible refine aw_regionA T_ok ?_ ?_); kernel_rfl) | ((with_reducible refine aw_drawnA T_ok ?_ ?_ ?_ ?_); kernel_rfl; kernel_rfl; (focus (decide +kernel))) | (with_reducible refine aw_skip ?_) | ((with_reducible refine aw_condM ?_ ?_); kernel_rfl) | (with_reducible refine aw_ret ?_) ); simp only [↓avP, avQ, avR, forall_const, implies_true, Nat.reduceEqDiff, Nat.reduceAdd, Nat.reduceLeDiff, reduceCtorEq, prD_B, ty_93, ty_27, hd, pr_eq, hp]; try simp (disch := omega) only [av_w, av_t1, av_tp, Int.toNat_natCast]))
      refine ⟨k + 1, ⟨by omega, fun i hi => by rcases Nat.lt_succ_iff_lt_or_eq.1 hi with h | rfl; exact h0 i h; rw [hPk]; exact hp⟩, by dsimp only; omega, wk_of [(0, some 0)] rfl rfl ?_ ?_⟩
      · simp only [wkA, reduceIte, Nat.reduceEqDiff]
        (repeat' (first | rfl | exact subVs_d _ _))
      · simp only [wkA, reduceIte, Nat.reduceEqDiff]
        (repeat' (first | rfl | exact subVs_d _ _))
    | true =>
      repeat' (first | (with_reducible refine aw_seq ?_) | ((with_reducible refine two_intro ?_ ?_) <;> intro h <;> first | contradiction | ((first | (guard_hyp h : true = true; clear h) | (guard_hyp h : false = false; clear h)))) | ((with_reducible refine And.intro ?_ ?_); (focus (first | exact eqPair | omega))) | (with_reducible refine aw_block ?_) | ((first | ((with_reducible refine aw_regionA T_ok ?_ ?_); kernel_rfl) | ((with_reducible refine aw_drawnA T_ok ?_ ?_ ?_ ?_); kernel_rfl; kernel_rfl; (focus (decide +kernel))) | (with_reducible refine aw_skip ?_) | ((with_reducible refine aw_condM ?_ ?_); kernel_rfl) | (with_reducible refine aw_ret ?_) ); simp only [↓avP, avQ, avR, forall_const, implies_true, Nat.reduceEqDiff, Nat.reduceAdd, Nat.reduceLeDiff, reduceCtorEq, prD_B, ty_93, ty_27, hd, pr_eq, hp]; try simp (disch := omega) only [av_w, av_t1, av_tp, Int.toNat_natCast]))
      exact Sub.of_eq (congrArg aI (idxP_hit hlt (by rw [hPk]; exact hp) h0).symm)
  · obtain rfl : k = l.length := by omega
    have hd := ged (Nat.le_refl l.length)
    repeat' (first | (with_reducible refine aw_seq ?_) | ((with_reducible refine two_intro ?_ ?_) <;> intro h <;> first | contradiction | (((guard_hyp h : false = false; clear h)))) | ((first | ((with_reducible refine aw_regionA T_ok ?_ ?_); kernel_rfl) | (with_reducible refine aw_exit ?_) | ((with_reducible refine aw_condM ?_ ?_); kernel_rfl) | (with_reducible refine aw_ret ?_) ); simp only [↓avP, avQ, avR, forall_const, implies_true, Nat.reduceEqDiff, reduceCtorEq, avS, hd]; try simp (disch := omega) only [av_w, av_t1, av_tp, Int.toNat_natCast]))
    exact Sub.of_eq (congrArg aI (idxP_miss h0).symm)
theorem prs_contains (l : List (Int × Int)) (v : Int × Int) (hl : l.length ≤ 140737488351232) : Spec Try.prog 67 [aPrs l, .agg (prD v)] (.r1 (aB (decide (v ∈ l)))) := by
  refine spec_of T_ok Try.func67 (by dsimp only [Try.f67]) rfl rfl (by simp) fun w F => ?_
  repeat' (first | (with_reducible refine aw_seq ?_) | ((first | ((with_reducible refine aw_regionA T_ok ?_ ?_); kernel_rfl) | ((with_reducible refine callI_spec (prs_index l v hl) (by with_unfolding_all rfl) ?_ ?_ ?_); kernel_rfl; kernel_rfl) | (with_reducible refine aw_ret ?_) ); simp only [↓avP, avQ, avR, forall_const, implies_true, Nat.reduceEqDiff, Nat.reduceAdd, Nat.reduceLeDiff, reduceCtorEq, avS, prD_B, ty_93]; try simp (disch := omega) only [av_w, av_t1, av_tp, Int.toNat_natCast]))
  refine Sub.of_eq (congrArg aB ?_)
  rw [idxP_any, any_getD l default (fun x => v == x), Bool.eq_iff_iff]
  simp
theorem isNaN_spec (x : Int) : Spec Try.prog 87 [aI x] (.r1 (aB false)) := by
  refine spec_of T_ok Try.func87 (by dsimp only [Try.f87]) rfl rfl (by simp) fun w F => ?_
  repeat' (first | (with_reducible refine aw_seq ?_) | (with_reducible refine aw_block ?_) | ((first | ((with_reducible refine aw_regionA T_ok ?_ ?_); kernel_rfl) | (with_reducible refine aw_ret ?_) ); simp only [↓avP, avQ, avR, forall_const, implies_true, Nat.reduceEqDiff, Nat.reduceAdd, reduceCtorEq, avS, ty_26, ty_27]; try simp (disch := omega) only [av_w, av_t1, av_tp, Int.toNat_natCast]))
  exact Sub.of_eq (congrArg aB (by simp))
def cmpI (x y : Int) : Int := if x < y then -1 else if y < x then 1 else 0
theorem cmpInt_spec (x y : Int) : Spec Try.prog 71 [aI x, aI y] (.r1 (aI (cmpI x y))) := by
  refine spec_of T_ok Try.func71 (by dsimp only [Try.f71]) rfl rfl (by simp) fun w F => ?_
  cases h1 : decide (x < y) with
  | true =>
    repeat' (first | (with_reducible refine aw_seq ?_) | ((with_reducible refine two_intro ?_ ?_) <;> intro h <;> first | contradiction | ((first | (guard_hyp h : true = true; clear h) | (guard_hyp h : false = false; clear h)))) | ((first | ((with_reducible refine aw_regionA T_ok ?_ ?_); kernel_rfl) | ((with_reducible refine callI_spec (isNaN_spec _) (by with_unfolding_all rfl) ?_ ?_ ?_); kernel_rfl; kernel_rfl) | (with_reducible refine aw_skip ?_) | ((with_reducible refine aw_condM ?_ ?_); kernel_rfl) | (with_reducible refine aw_ret ?_) ); simp only [↓avP, avQ, avR, forall_const, implies_true, Nat.reduceEqDiff, Nat.reduceAdd, reduceCtorEq, avS, h1]; try simp (disch := omega) only [av_w, av_t1, av_tp, Int.toNat_natCast]))
    exact Sub.of_eq (congrArg aI (by unfold cmpI; rw [if_pos (of_decide_eq_true h1)]))
  | false =>
  cases h2 : decide (x > y) with
  | true =>
    repeat' (first | (with_reducible refine aw_seq ?_) | ((with_reducible refine two_intro ?_ ?_) <;> intro h <;> first | contradiction | ((first | (guard_hyp h : true = true; clear h) | (guard_hyp h : false = false; clear h)))) | ((first | ((with_reducible refine aw_regionA T_ok ?_ ?_); kernel_rfl) | ((with_reducible refine callI_spec (isNaN_spec _) (by with_unfolding_all rfl) ?_ ?_ ?_); kernel_rfl; kernel_rfl) | (with_reducible refine aw_skip ?_) | ((with_reducible refine aw_condM ?_ ?_); kernel_rfl) | (with_reducible refine aw_ret ?_) ); simp only [↓avP, avQ, avR, forall_const, implies_true, Nat.reduceEqDiff, Nat.reduceAdd, reduceCtorEq, avS, h1, h2]; try simp (disch := omega) only [av_w, av_t1, av_tp, Int.toNat_natCast]))
    exact Sub.of_eq (congrArg aI (by unfold cmpI; rw [if_neg (of_decide_eq_false h1), if_pos (of_decide_eq_true h2)]))
  | false =>
    repeat' (first | (with_reducible refine aw_seq ?_) | ((with_reducible refine two_intro ?_ ?_) <;> intro h <;> first | contradiction | ((first | (guard_hyp h : true = true; clear h) | (guard_hyp h : false = false; clear h)))) | ((first | ((with_reducible refine aw_regionA T_ok ?_ ?_); kernel_rfl) | ((with_reducible refine callI_spec (isNaN_spec _) (by with_unfolding_all rfl) ?_ ?_ ?_); kernel_rfl; kernel_rfl) | (with_reducible refine aw_skip ?_) | ((with_reducible refine aw_condM ?_ ?_); kernel_rfl) | (with_reducible refine aw_ret ?_) ); simp only [↓avP, avQ, avR, forall_const, implies_true, Nat.reduceEqDiff, Nat.reduceAdd, reduceCtorEq, avS, h1, h2]; try simp (disch := omega) only [av_w, av_t1, av_tp, Int.toNat_natCast]))
    exact Sub.of_eq (congrArg aI (by unfold cmpI; rw [if_neg (of_decide_eq_false h1), if_neg (of_decide_eq_false h2)]))
def cmpPr (a b : Int × Int) : Int := if cmpI a.1 b.1 ≠ 0 then cmpI a.1 b.1 else cmpI a.2 b.2
theorem compare_spec (a b : Int × Int) (d0 d1 : List D) : Spec Try.prog 54 [.one (.sl 1 d0 [[cI a.1], [cI a.2]]), .one (.sl 1 d1 [[cI b.1], [cI b.2]])] (.r1 (aI (cmpPr a b))) := by
  refine spec_of T_ok Try.func54 (by dsimp only [Try.f54]) rfl rfl (by simp) fun w F => ?_
  cases h1 : (cmpI a.1 b.1 != 0) with
  | true =>
    repeat' (first | (with_reducible refine aw_seq ?_) | ((with_reducible refine two_intro ?_ ?_) <;> intro h <;> first | contradiction | ((first | (guard_hyp h : true = true; clear h) | (revert h; intro _)))) | ((with_reducible refine And.intro ?_ ?_); (focus (omega))) | (with_reducible refine aw_block ?_) | ((first | (with_reducible refine aw_unroll 3 ?_) | ((with_reducible refine un_step ?_ ?_); (focus decide)) | ((with_reducible refine aw_regionA T_ok ?_ ?_); kernel_rfl) | ((with_reducible refine callI_spec (cmpInt_spec _ _) (by with_unfolding_all rfl) ?_ ?_ ?_); kernel_rfl; kernel_rfl) | (with_reducible refine aw_skip ?_) | ((with_reducible refine aw_condM ?_ ?_); kernel_rfl) | (with_reducible refine aw_ret ?_) ); simp only [↓avP, avQ, avR, forall_const, implies_true, Nat.reduceEqDiff, Nat.reduceAdd, Nat.reduceSub, Int.reduceToNat, Nat.reduceLT, reduceCtorEq, avS, List.getD_cons_zero, Int.reduceLT, Int.cast_ofNat_Int, ty_3, ty_83, h1]; try simp (disch := omega) only [av_w, av_t1, av_tp, Int.toNat_natCast]))
    exact Sub.of_eq (congrArg aI (by unfold cmpPr; rw [if_pos (by simpa using h1)]))
  | false =>
  cases h2 : (cmpI a.2 b.2 != 0) with
  | true =>
    repeat' (first | (with_reducible refine aw_seq ?_) | ((with_reducible refine two_intro ?_ ?_) <;> intro h <;> first | contradiction | ((first | (guard_hyp h : true = true; clear h) | (guard_hyp h : false = false; clear h) | (revert h; intro _)))) | ((with_reducible refine And.intro ?_ ?_); (focus (omega))) | (with_reducible refine aw_block ?_) | ((first | (with_reducible refine aw_unroll 3 ?_) | ((with_reducible refine un_step ?_ ?_); (focus decide)) | ((with_reducible refine aw_regionA T_ok ?_ ?_); kernel_rfl) | ((with_reducible refine callI_spec (cmpInt_spec _ _) (by with_unfolding_all rfl) ?_ ?_ ?_); kernel_rfl; kernel_rfl) | (with_reducible refine aw_skip ?_) | (with_reducible refine aw_exit ?_) | ((with_reducible refine aw_condM ?_ ?_); kernel_rfl) | (with_reducible refine aw_ret ?_) ); simp only [↓avP, avQ, avR, forall_const, implies_true, Nat.reduceEqDiff, Nat.reduceAdd, Nat.reduceSub, Int.reduceToNat, Nat.reduceLT, reduceCtorEq, avS, List.getD_cons_zero, List.getD_cons_succ, Int.reduceAdd, Int.reduceLT, Int.cast_ofNat_Int, ty_3, ty_83, h1, h2]; try simp (disch := omega) only [av_w]))
    exact Sub.of_eq (congrArg aI (by unfold cmpPr; rw [if_neg (by simpa using h1)]))
  | false =>
    repeat' (first | (with_reducible refine aw_seq ?_) | ((with_reducible refine two_intro ?_ ?_) <;> intro h <;> first | contradiction | ((first | (guard_hyp h : true = true; clear h) | (guard_hyp h : false = false; clear h) | (revert h; intro _)))) | ((with_reducible refine And.intro ?_ ?_); (focus (omega))) | (with_reducible refine aw_block ?_) | ((first | (with_reducible refine aw_unroll 3 ?_) | ((with_reducible refine un_step ?_ ?_); (focus decide)) | ((with_reducible refine aw_regionA T_ok ?_ ?_); kernel_rfl) | ((with_reducible refine callI_spec (cmpInt_spec _ _) (by with_unfolding_all rfl) ?_ ?_ ?_); kernel_rfl; kernel_rfl) | (with_reducible refine aw_skip ?_) | (with_reducible refine aw_exit ?_) | ((with_reducible refine aw_condM ?_ ?_); kernel_rfl) | (with_reducible refine aw_ret ?_) ); simp only [↓avP, avQ, avR, forall_const, implies_true, Nat.reduceEqDiff, Nat.reduceAdd, Nat.reduceSub, Int.reduceToNat, Nat.reduceLT, reduceCtorEq, avS, List.getD_cons_zero, List.getD_cons_succ, Int.reduceAdd, Int.reduceLT, Int.cast_ofNat_Int, ty_3, ty_83, h1, h2]; try simp (disch := omega) only [av_w]))
    exact Sub.of_eq (congrArg aI (by unfold cmpPr; rw [if_neg (by simpa using h1)]; exact (by simpa using h2 : cmpI a.2 b.2 = 0).symm))
end Go.Proofs.Ythidfoohhhkobaa

