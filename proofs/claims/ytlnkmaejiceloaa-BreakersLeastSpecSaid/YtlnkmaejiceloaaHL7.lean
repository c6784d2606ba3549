import Derived.Test.YtlnkmaejiceloaaHL6
import Derived.Test.YtlnkmaejiceloaaHL2
namespace Go.Proofs.Ytlnkmaejiceloaa
set_option linter.unusedSimpArgs false
set_option linter.unusedVariables false
open Go.RowKit
theorem snocL (l : List LotP) (x : LotP) : l.map lotD ++ [lotD x] = (l ++ [x]).map lotD := by simp
set_option maxRecDepth 100000
set_option maxHeartbeats 4000000
def knownF (f : FlowP) : Bool := (List.range f.lots.length).all fun k => !(!(f.lots.getD k default).known)
structure GoodL (bef : Int) (gone : List Int) (x : LotP) : Prop where
  ne : x.inn.length ≠ 0
  nd : x.inn.Nodup
  fr : ∀ s ∈ x.inn, 0 ≤ s ∧ s < bef ∧ s ∉ gone
  pl : x.known = true → x.perm.length = x.inn.length ∧ x.perm.Nodup ∧ ∀ i ∈ x.perm, 0 ≤ i ∧ i < (x.inn.length : Int)
  pu : x.known = false → x.perm = []
theorem goodL_iff (bef : Int) (gone : List Int) (x : LotP) : lotB bef gone x = true ↔ GoodL bef gone x := by
  unfold lotB diffB
  simp only [Bool.and_eq_true, decide_eq_true_eq, List.all_eq_true, freeB, Bool.not_eq_true', decide_eq_false_iff_not]
  constructor
  · rintro ⟨⟨h1, h2, h3⟩, h4⟩
    refine ⟨h1, h2, fun s hs => ?_, fun hk => ?_, fun hk => ?_⟩
    · have := h3 s hs
      exact ⟨this.1.1, this.1.2, this.2⟩
    · rw [if_pos hk] at h4
      simp only [Bool.and_eq_true, decide_eq_true_eq, List.all_eq_true, outB] at h4
      exact ⟨h4.1, h4.2.1, h4.2.2⟩
    · rw [if_neg (by rw [hk]; simp)] at h4
      exact List.eq_nil_of_length_eq_zero (by simpa using h4)
  · rintro ⟨h1, h2, h3, h4, h5⟩
    refine ⟨⟨h1, h2, fun s hs => ?_⟩, ?_⟩
    · have := h3 s hs
      exact ⟨⟨this.1, this.2.1⟩, this.2.2⟩
    · by_cases hk : x.known = true
      · obtain ⟨g1, g2, g3⟩ := h4 hk
        rw [if_pos hk]
        simp only [Bool.and_eq_true, decide_eq_true_eq, List.all_eq_true, outB]
        exact ⟨g1, g2, g3⟩
      · rw [if_neg hk, h5 (by simpa using hk)]
        rfl
theorem goodL_at {f : FlowP} (h : checkF f = 0) {k : Nat} (hk : k < f.lots.length) : GoodL (befF f k) (goneF f k) (f.lots.getD k default) := (goodL_iff _ _ _).1 ((checkF_zero h).2.2.2.2 k hk)
def seesB (lines : List (List Int)) (coal : List Int) (k : Nat) : Bool := (lines.getD k []).all fun x => decide (x ∈ coal)
def viewL (f : FlowP) (lines : List (List Int)) (coal : List Int) (k : Nat) : LotP := if seesB lines coal k = true then f.lots.getD k default else ⟨(f.lots.getD k default).inn, false, []⟩
def viewE (f : FlowP) (lines : List (List Int)) (coal : List Int) (k : Nat) : List D := if seesB lines coal k = true then lotD (f.lots.getD k default) else [.sl 1 (intD 0) ((f.lots.getD k default).inn.map intD), .c (.bool false), .c (.slice none 0 0)]
theorem viewE_sub (f : FlowP) (lines : List (List Int)) (coal : List Int) (k : Nat) : SubDL (viewE f lines coal k) (lotD (viewL f lines coal k)) := by
  unfold viewE viewL
  split
  · exact SubDL.refl _
  · exact ⟨SubD.refl _, SubD.refl _, SubD.of _ _ rfl, trivial⟩
def viewEs (f : FlowP) (lines : List (List Int)) (coal : List Int) (k : Nat) : List (List D) := (List.range k).map (viewE f lines coal)
theorem viewEs_succ (f : FlowP) (lines : List (List Int)) (coal : List Int) (k : Nat) : viewEs f lines coal (k + 1) = viewEs f lines coal k ++ [viewE f lines coal k] := by simp [viewEs, List.range_succ]
theorem viewEs_len (f : FlowP) (lines : List (List Int)) (coal : List Int) (k : Nat) : (viewEs f lines coal k).length = k := by simp [viewEs]
def viewAt (f : FlowP) (lines : List (List Int)) (coal : List Int) (k : Nat) : List LotP := (List.range k).map (viewL f lines coal)
theorem viewAt_len (f : FlowP) (lines : List (List Int)) (coal : List Int) (k : Nat) : (viewAt f lines coal k).length = k := by simp [viewAt]
def errV (f : FlowP) (lines : List (List Int)) (coal : List Int) : Int := if checkF f ≠ 0 then checkF f else if (knownF f && linesB lines f.lots.length && coalB coal) = true then 0 else 1
instance : Inhabited FlowP := ⟨⟨0, []⟩⟩
def viewR (f : FlowP) (lines : List (List Int)) (coal : List Int) : FlowP := if errV f lines coal = 0 then ⟨f.senders, viewAt f lines coal f.lots.length⟩ else default
theorem qfview_spec (f : FlowP) (lines : List (List Int)) (coal : List Int) (hf : OkF f) (hl : lines.length ≤ 140737488351232) (hx : ∀ x ∈ lines, x.length ≤ 140737488351232) (hcl : coal.length ≤ 140737488351232) :
    Spec Try.prog 28 [.agg (flowD f), aIss lines, aIs coal] (.rt [.agg (flowD (viewR f lines coal)), aI (errV f lines coal)]) := by
  refine spec_of T_ok Try.func28 (by dsimp only [Try.f28]) rfl rfl (by simp) fun w F => ?_
  have hC := qfcheck_spec f hf
  have hK := qknown_spec f hf.l
  rw [show ((List.range f.lots.length).all fun k => !(!(f.lots.getD k default).known)) = knownF f from rfl] at hK
  have hL := qlines_spec lines f.lots.length hl hx
  have hO := qcoal_spec coal hcl
  have hfl := hf.l
  by_cases hc : checkF f = 0
  rotate_left
  · have hd : (checkF f != 0) = true := by simpa using hc
    repeat' (first | (with_reducible refine aw_seq ?_) | ((with_reducible refine twoG_intro ?_ ?_) <;> intro h <;> first | contradiction | ((try simp only [h, avT]); (first | (guard_hyp h : true = true; clear h) | (guard_hyp h : false = false; clear h) | (revert h; intro _)))) | ((with_reducible refine two_intro ?_ ?_) <;> intro h <;> first | contradiction | ((first | (guard_hyp h : true = true; clear h) | (guard_hyp h : false = false; clear h) | (revert h; intro _)))) | ((with_reducible refine And.intro ?_ ?_); (focus (first | omega | rfl | decide | grind))) | (with_reducible refine aw_block ?_) | (with_reducible refine aw_scope ?_) | ((first | ((with_reducible refine aw_regionA T_ok ?_ ?_); kernel_rfl) | ((with_reducible refine aw_drawnA T_ok ?_ ?_ ?_ ?_); kernel_rfl; kernel_rfl; (focus (decide +kernel))) | ((with_reducible refine aw_drawnF T_ok ?_ ?_ ?_ ?_); kernel_rfl; kernel_rfl; (focus (decide +kernel))) | ((with_reducible refine callK_intro (hC) (by with_unfolding_all rfl) ?_ ?_); kernel_rfl) | ((with_reducible refine callI_spec (hC) (by with_unfolding_all rfl) ?_ ?_ ?_); kernel_rfl; kernel_rfl) | (with_reducible refine aw_label ?_) | ((with_reducible refine aw_rfM ?_ ?_); kernel_rfl) | (with_reducible refine aw_skip ?_) | (with_reducible refine aw_exit ?_) | ((with_reducible refine aw_condM ?_ ?_); kernel_rfl) | (with_reducible refine aw_ret ?_)); simp only [↓avP, avQ, avR, forall_const, implies_true, reduceIte, Nat.reduceEqDiff, Nat.reduceAdd, Nat.reduceSub, Int.reduceToNat, Nat.reduceLeDiff, Nat.reduceLT, reduceCtorEq, Int.reduceEq, avS, intD_B, lotD_B, flowD_B, snocI, snocL, ty_3, ty_26, ty_4, ty_24, ty_50, ty_22, ty_25, ← List.map_take, issD_get, hd]; try simp (disch := omega) only [av_w, av_t1, av_tp, Int.toNat_natCast]))
    have he : errV f lines coal = checkF f := by rw [errV, if_pos hc]
    rw [viewR, he, if_neg hc]
    exact ⟨Sub.aggs ⟨rfl, rfl, trivial⟩, Sub.refl _⟩
  rw [hc] at hC
  cases hk : knownF f with
  | false =>
    repeat' (first | (with_reducible refine aw_seq ?_) | ((with_reducible refine twoG_intro ?_ ?_) <;> intro h <;> first | contradiction | ((try simp only [h, avT]); (first | (guard_hyp h : true = true; clear h) | (guard_hyp h : false = false; clear h) | (revert h; intro _)))) | ((with_reducible refine two_intro ?_ ?_) <;> intro h <;> first | contradiction | ((first | (guard_hyp h : true = true; clear h) | (guard_hyp h : false = false; clear h) | (revert h; intro _)))) | ((with_reducible refine And.intro ?_ ?_); (focus (first | omega | rfl | decide | grind))) | (with_reducible refine aw_block ?_) | (with_reducible refine aw_scope ?_) | ((first | ((with_reducible refine aw_regionA T_ok ?_ ?_); kernel_rfl) | ((with_reducible refine aw_drawnA T_ok ?_ ?_ ?_ ?_); kernel_rfl; kernel_rfl; (focus (decide +kernel))) | ((with_reducible refine aw_drawnF T_ok ?_ ?_ ?_ ?_); kernel_rfl; kernel_rfl; (focus (decide +kernel))) | ((with_reducible refine callK_intro (hC) (by with_unfolding_all rfl) ?_ ?_); kernel_rfl) | ((with_reducible refine callI_spec (hC) (by with_unfolding_all rfl) ?_ ?_ ?_); kernel_rfl; kernel_rfl) | ((with_reducible refine callK_intro (hK) (by with_unfolding_all rfl) ?_ ?_); kernel_rfl) | ((with_reducible refine callI_spec (hK) (by with_unfolding_all rfl) ?_ ?_ ?_); kernel_rfl; kernel_rfl) | ((with_reducible refine callK_skip (.r1 (aB false)) (by with_unfolding_all rfl) ?_ ?_); kernel_rfl) | (with_reducible refine aw_label ?_) | ((with_reducible refine aw_rfM ?_ ?_); kernel_rfl) | (with_reducible refine aw_skip ?_) | (with_reducible refine aw_exit ?_) | ((with_reducible refine aw_condM ?_ ?_); kernel_rfl) | (with_reducible refine aw_ret ?_)); simp only [↓avP, avQ, avR, forall_const, implies_true, reduceIte, Nat.reduceEqDiff, Nat.reduceAdd, Nat.reduceSub, Int.reduceToNat, Nat.reduceLeDiff, Nat.reduceLT, reduceCtorEq, Int.reduceEq, avS, intD_B, lotD_B, flowD_B, snocI, snocL, ty_3, ty_26, ty_4, ty_24, ty_50, ty_22, ty_25, ← List.map_take, issD_get, hk]; try simp (disch := omega) only [av_w, av_t1, av_tp, Int.toNat_natCast]))
    have he : errV f lines coal = 1 := by rw [errV, if_neg (by simpa using hc)]; simp [hk]
    rw [viewR, he, if_neg (by decide)]
    exact ⟨Sub.aggs ⟨rfl, rfl, trivial⟩, Sub.refl _⟩
  | true =>
    cases hlb : linesB lines f.lots.length with
    | false =>
      repeat' (first | (with_reducible refine aw_seq ?_) | ((with_reducible refine twoG_intro ?_ ?_) <;> intro h <;> first | contradiction | ((try simp only [h, avT]); (first | (guard_hyp h : true = true; clear h) | (guard_hyp h : false = false; clear h) | (revert h; intro _)))) | ((with_reducible refine two_intro ?_ ?_) <;> intro h <;> first | contradiction | ((first | (guard_hyp h : true = true; clear h) | (guard_hyp h : false = false; clear h) | (revert h; intro _)))) | ((with_reducible refine And.intro ?_ ?_); (focus (first | omega | rfl | decide | grind))) | (with_reducible refine aw_block ?_) | (with_reducible refine aw_scope ?_) | ((first | ((with_reducible refine aw_regionA T_ok ?_ ?_); kernel_rfl) | ((with_reducible refine aw_drawnA T_ok ?_ ?_ ?_ ?_); kernel_rfl; kernel_rfl; (focus (decide +kernel))) | ((with_reducible refine aw_drawnF T_ok ?_ ?_ ?_ ?_); kernel_rfl; kernel_rfl; (focus (decide +kernel))) | ((with_reducible refine callK_intro (hC) (by with_unfolding_all rfl) ?_ ?_); kernel_rfl) | ((with_reducible refine callI_spec (hC) (by with_unfolding_all rfl) ?_ ?_ ?_); kernel_rfl; kernel_rfl) | ((with_reducible refine callK_intro (hK) (by with_unfolding_all rfl) ?_ ?_); kernel_rfl) | ((with_reducible refine callI_spec (hK) (by with_unfolding_all rfl) ?_ ?_ ?_); kernel_rfl; kernel_rfl) | ((with_reducible refine callK_intro (hL) (by with_unfolding_all rfl) ?_ ?_); kernel_rfl) | ((with_reducible refine callI_spec (hL) (by with_unfolding_all rfl) ?_ ?_ ?_); kernel_rfl; kernel_rfl) | ((with_reducible refine callK_skip (.r1 (aB false)) (by with_unfolding_all rfl) ?_ ?_); kernel_rfl) | (with_reducible refine aw_label ?_) | ((with_reducible refine aw_rfM ?_ ?_); kernel_rfl) | (with_reducible refine aw_skip ?_) | (with_reducible refine aw_exit ?_) | ((with_reducible refine aw_condM ?_ ?_); kernel_rfl) | (with_reducible refine aw_ret ?_)); simp only [↓avP, avQ, avR, forall_const, implies_true, reduceIte, Nat.reduceEqDiff, Nat.reduceAdd, Nat.reduceSub, Int.reduceToNat, Nat.reduceLeDiff, Nat.reduceLT, reduceCtorEq, Int.reduceEq, avS, intD_B, lotD_B, flowD_B, snocI, snocL, ty_3, ty_26, ty_4, ty_24, ty_50, ty_22, ty_25, ← List.map_take, issD_get, hk, hlb]; try simp (disch := omega) only [av_w, av_t1, av_tp, Int.toNat_natCast]))
      have he : errV f lines coal = 1 := by rw [errV, if_neg (by simpa using hc)]; simp [hk, hlb]
      rw [viewR, he, if_neg (by decide)]
      exact ⟨Sub.aggs ⟨rfl, rfl, trivial⟩, Sub.refl _⟩
    | true =>
      cases hcb : coalB coal with
      | false =>
        repeat' (first | (with_reducible refine aw_seq ?_) | ((with_reducible refine twoG_intro ?_ ?_) <;> intro h <;> first | contradiction | ((try simp only [h, avT]); (first | (guard_hyp h : true = true; clear h) | (guard_hyp h : false = false; clear h) | (revert h; intro _)))) | ((with_reducible refine two_intro ?_ ?_) <;> intro h <;> first | contradiction | ((first | (guard_hyp h : true = true; clear h) | (guard_hyp h : false = false; clear h) | (revert h; intro _)))) | ((with_reducible refine And.intro ?_ ?_); (focus (first | omega | rfl | decide | grind))) | (with_reducible refine aw_block ?_) | (with_reducible refine aw_scope ?_) | ((first | ((with_reducible refine aw_regionA T_ok ?_ ?_); kernel_rfl) | ((with_reducible refine aw_drawnA T_ok ?_ ?_ ?_ ?_); kernel_rfl; kernel_rfl; (focus (decide +kernel))) | ((with_reducible refine aw_drawnF T_ok ?_ ?_ ?_ ?_); kernel_rfl; kernel_rfl; (focus (decide +kernel))) | ((with_reducible refine callK_intro (hC) (by with_unfolding_all rfl) ?_ ?_); kernel_rfl) | ((with_reducible refine callI_spec (hC) (by with_unfolding_all rfl) ?_ ?_ ?_); kernel_rfl; kernel_rfl) | ((with_reducible refine callK_intro (hK) (by with_unfolding_all rfl) ?_ ?_); kernel_rfl) | ((with_reducible refine callI_spec (hK) (by with_unfolding_all rfl) ?_ ?_ ?_); kernel_rfl; kernel_rfl) | ((with_reducible refine callK_intro (hL) (by with_unfolding_all rfl) ?_ ?_); kernel_rfl) | ((with_reducible refine callI_spec (hL) (by with_unfolding_all rfl) ?_ ?_ ?_); kernel_rfl; kernel_rfl) | ((with_reducible refine callK_intro (hO) (by with_unfolding_all rfl) ?_ ?_); kernel_rfl) | ((with_reducible refine callI_spec (hO) (by with_unfolding_all rfl) ?_ ?_ ?_); kernel_rfl; kernel_rfl) | (with_reducible refine aw_label ?_) | ((with_reducible refine aw_rfM ?_ ?_); kernel_rfl) | (with_reducible refine aw_skip ?_) | (with_reducible refine aw_exit ?_) | ((with_reducible refine aw_condM ?_ ?_); kernel_rfl) | (with_reducible refine aw_ret ?_)); simp only [↓avP, avQ, avR, forall_const, implies_true, reduceIte, Nat.reduceEqDiff, Nat.reduceAdd, Nat.reduceSub, Int.reduceToNat, Nat.reduceLeDiff, Nat.reduceLT, reduceCtorEq, Int.reduceEq, avS, intD_B, lotD_B, flowD_B, snocI, snocL, ty_3, ty_26, ty_4, ty_24, ty_50, ty_22, ty_25, ← List.map_take, issD_get, hk, hlb, hcb]; try simp (disch := omega) only [av_w, av_t1, av_tp, Int.toNat_natCast]))
        have he : errV f lines coal = 1 := by rw [errV, if_neg (by simpa using hc)]; simp [hk, hlb, hcb]
        rw [viewR, he, if_neg (by decide)]
        exact ⟨Sub.aggs ⟨rfl, rfl, trivial⟩, Sub.refl _⟩
      | true =>
        repeat' (first | (with_reducible refine aw_seq ?_) | ((with_reducible refine twoG_intro ?_ ?_) <;> intro h <;> first | contradiction | ((try simp only [h, avT]); (first | (guard_hyp h : true = true; clear h) | (guard_hyp h : false = false; clear h) | (revert h; intro _)))) | ((with_reducible refine two_intro ?_ ?_) <;> intro h <;> first | contradiction | ((first | (guard_hyp h : true = true; clear h) | (guard_hyp h : false = false; clear h) | (revert h; intro _)))) | ((with_reducible refine And.intro ?_ ?_); (focus (first | omega | rfl | decide | grind))) | (with_reducible refine aw_block ?_) | (with_reducible refine aw_scope ?_) | ((first | ((with_reducible refine aw_regionA T_ok ?_ ?_); kernel_rfl) | ((with_reducible refine aw_drawnA T_ok ?_ ?_ ?_ ?_); kernel_rfl; kernel_rfl; (focus (decide +kernel))) | ((with_reducible refine aw_drawnF T_ok ?_ ?_ ?_ ?_); kernel_rfl; kernel_rfl; (focus (decide +kernel))) | ((with_reducible refine callK_intro (hC) (by with_unfolding_all rfl) ?_ ?_); kernel_rfl) | ((with_reducible refine callI_spec (hC) (by with_unfolding_all rfl) ?_ ?_ ?_); kernel_rfl; kernel_rfl) | ((with_reducible refine callK_intro (hK) (by with_unfolding_all rfl) ?_ ?_); kernel_rfl) | ((with_reducible refine callI_spec (hK) (by with_unfolding_all rfl) ?_ ?_ ?_); kernel_rfl; kernel_rfl) | ((with_reducible refine callK_intro (hL) (by with_unfolding_all rfl) ?_ ?_); kernel_rfl) | ((with_reducible refine callI_spec (hL) (by with_unfolding_all rfl) ?_ ?_ ?_); kernel_rfl; kernel_rfl) | ((with_reducible refine callK_intro (hO) (by with_unfolding_all rfl) ?_ ?_); kernel_rfl) | ((with_reducible refine callI_spec (hO) (by with_unfolding_all rfl) ?_ ?_ ?_); kernel_rfl; kernel_rfl) | (with_reducible refine aw_label ?_) | ((with_reducible refine aw_rfM ?_ ?_); kernel_rfl) | (with_reducible refine aw_skip ?_) | (with_reducible refine aw_exit ?_) | ((with_reducible refine aw_condM ?_ ?_); kernel_rfl) | (with_reducible refine aw_ret ?_)); simp only [↓avP, avQ, avR, forall_const, implies_true, reduceIte, Nat.reduceEqDiff, Nat.reduceAdd, Nat.reduceSub, Int.reduceToNat, Nat.reduceLeDiff, Nat.reduceLT, reduceCtorEq, Int.reduceEq, avS, intD_B, lotD_B, flowD_B, snocI, snocL, ty_3, ty_26, ty_4, ty_24, ty_50, ty_22, ty_25, ← List.map_take, issD_get, hk, hlb, hcb]; try simp (disch := omega) only [av_w, av_t1, av_tp, Int.toNat_natCast]))
        have he : errV f lines coal = 0 := by rw [errV, if_neg (by simpa using hc)]; simp [hk, hlb, hcb]
        have z2 := (checkF_zero hc).2.1
        have hll : lines.length = f.lots.length := by
          simp only [linesB, Bool.and_eq_true, decide_eq_true_eq] at hlb
          exact hlb.2
        refine aw_loopI (fun k : Nat => ⟨[(1, vIss lines), (2, vIs coal), (3, .ptr 0 0), (6, .ptr 1 0), (9, .ptr 2 0), (10, vI k)],
          [(3, .tok 50 3 (viewEs f lines coal k).length), (2, .cells 24 [vI f.senders, .ow 3 3 (lotD default) (viewEs f lines coal k)]), (1, .cells 24 [vI 0, .d (.c (.slice none 0 0))]), (0, .cells 24 (dV (flowD f)))], 4⟩)
          (fun k => k ≤ f.lots.length) (fun k => f.lots.length - k) 0 (Nat.zero_le _) (wk_of [(0, some 0), (1, some 1), (2, some 2), (3, none)] rfl rfl ?_ ?_) ?_
        · simp only [wkA, reduceIte, Nat.reduceEqDiff]
          (repeat' (first | exact trivial | rfl | exact rfl | exact subVs_d _ _ | exact subVs_dm _ _ | exact subD_refl _ | refine And.intro ?_ ?_))
        · simp only [wkA, reduceIte, Nat.reduceEqDiff]
          (repeat' (first | exact trivial | rfl | exact rfl | exact subVs_d _ _ | exact subVs_dm _ _ | exact subD_refl _ | refine And.intro ?_ ?_))
        intro k hkl
        have hvl := viewEs_len f lines coal k
        rcases Nat.lt_or_ge k f.lots.length with hlt | hge
        · have hd := ltd hlt
          have hxl : (lines.getD k []).length ≤ 140737488351232 := by
            have : lines.getD k [] = lines[k] := by simp [List.getD, show k < lines.length by omega]
            rw [this]; exact hx _ (by simp)
          have hA := qall_spec (lines.getD k []) coal hxl hcl
          rw [show ((lines.getD k []).all fun x => decide (x ∈ coal)) = seesB lines coal k from rfl] at hA
          have hes := viewEs_succ f lines coal k
          cases hse : seesB lines coal k with
          | true =>
            rw [viewE, if_pos hse] at hes
            repeat' (first | (with_reducible refine aw_seq ?_) | ((with_reducible refine twoG_intro ?_ ?_) <;> intro h <;> first | contradiction | ((try simp only [h, avT]); (first | (guard_hyp h : true = true; clear h) | (guard_hyp h : false = false; clear h) | (revert h; intro _)))) | ((with_reducible refine two_intro ?_ ?_) <;> intro h <;> first | contradiction | ((first | (guard_hyp h : true = true; clear h) | (guard_hyp h : false = false; clear h) | (revert h; intro _)))) | ((with_reducible refine And.intro ?_ ?_); (focus (first | omega | rfl | decide | grind))) | (with_reducible refine aw_block ?_) | (with_reducible refine aw_scope ?_) | ((first | ((with_reducible refine aw_regionA T_ok ?_ ?_); kernel_rfl) | ((with_reducible refine aw_drawnA T_ok ?_ ?_ ?_ ?_); kernel_rfl; kernel_rfl; (focus (decide +kernel))) | ((with_reducible refine aw_drawnF T_ok ?_ ?_ ?_ ?_); kernel_rfl; kernel_rfl; (focus (decide +kernel))) | ((with_reducible refine callK_intro (hA) (by with_unfolding_all rfl) ?_ ?_); kernel_rfl) | ((with_reducible refine callI_spec (hA) (by with_unfolding_all rfl) ?_ ?_ ?_); kernel_rfl; kernel_rfl) | (with_reducible refine aw_label ?_) | ((with_reducible refine aw_rfM ?_ ?_); kernel_rfl) | (with_reducible refine aw_skip ?_) | (with_reducible refine aw_exit ?_) | ((with_reducible refine aw_condM ?_ ?_); kernel_rfl) | (with_reducible refine aw_ret ?_)); simp only [↓avP, avQ, avR, forall_const, implies_true, reduceIte, Nat.reduceEqDiff, Nat.reduceAdd, Nat.reduceSub, Int.reduceToNat, Nat.reduceLeDiff, Nat.reduceLT, reduceCtorEq, Int.reduceEq, avS, intD_B, lotD_B, flowD_B, snocI, snocL, ty_3, ty_26, ty_4, ty_24, ty_50, ty_22, ty_25, ← List.map_take, issD_get, hd, hse]; try simp (disch := omega) only [av_w, av_t1, av_tp, Int.toNat_natCast]))
            refine ⟨k + 1, by omega, by dsimp only; omega, wk_of [(0, some 0), (1, some 1), (2, some 2), (3, some 15)] rfl rfl ?_ ?_⟩
            · simp only [wkA, reduceIte, Nat.reduceEqDiff]
              (repeat' (first | exact trivial | rfl | exact rfl | exact subVs_d _ _ | exact subVs_dm _ _ | exact subD_refl _ | refine And.intro ?_ ?_))
            · simp only [wkA, reduceIte, Nat.reduceEqDiff]
              rw [hes]
              (repeat' (first | (simp; done) | exact trivial | rfl | exact rfl | exact subVs_d _ _ | exact subVs_dm _ _ | exact subD_refl _ | refine And.intro ?_ ?_))
          | false =>
            rw [viewE, if_neg (by rw [hse]; simp)] at hes
            repeat' (first | (with_reducible refine aw_seq ?_) | ((with_reducible refine twoG_intro ?_ ?_) <;> intro h <;> first | contradiction | ((try simp only [h, avT]); (first | (guard_hyp h : true = true; clear h) | (guard_hyp h : false = false; clear h) | (revert h; intro _)))) | ((with_reducible refine two_intro ?_ ?_) <;> intro h <;> first | contradiction | ((first | (guard_hyp h : true = true; clear h) | (guard_hyp h : false = false; clear h) | (revert h; intro _)))) | ((with_reducible refine And.intro ?_ ?_); (focus (first | omega | rfl | decide | grind))) | (with_reducible refine aw_block ?_) | (with_reducible refine aw_scope ?_) | ((first | ((with_reducible refine aw_regionA T_ok ?_ ?_); kernel_rfl) | ((with_reducible refine aw_drawnA T_ok ?_ ?_ ?_ ?_); kernel_rfl; kernel_rfl; (focus (decide +kernel))) | ((with_reducible refine aw_drawnF T_ok ?_ ?_ ?_ ?_); kernel_rfl; kernel_rfl; (focus (decide +kernel))) | ((with_reducible refine callK_intro (hA) (by with_unfolding_all rfl) ?_ ?_); kernel_rfl) | ((with_reducible refine callI_spec (hA) (by with_unfolding_all rfl) ?_ ?_ ?_); kernel_rfl; kernel_rfl) | (with_reducible refine aw_label ?_) | ((with_reducible refine aw_rfM ?_ ?_); kernel_rfl) | (with_reducible refine aw_skip ?_) | (with_reducible refine aw_exit ?_) | ((with_reducible refine aw_condM ?_ ?_); kernel_rfl) | (with_reducible refine aw_ret ?_)); simp only [↓avP, avQ, avR, forall_const, implies_true, reduceIte, Nat.reduceEqDiff, Nat.reduceAdd, Nat.reduceSub, Int.reduceToNat, Nat.reduceLeDiff, Nat.reduceLT, reduceCtorEq, Int.reduceEq, avS, intD_B, lotD_B, flowD_B, snocI, snocL, ty_3, ty_26, ty_4, ty_24, ty_50, ty_22, ty_25, ← List.map_take, issD_get, hd, hse]; try simp (disch := omega) only [av_w, av_t1, av_tp, Int.toNat_natCast]))
            refine ⟨k + 1, by omega, by dsimp only; omega, wk_of [(0, some 0), (1, some 1), (2, some 2), (3, some 17)] rfl rfl ?_ ?_⟩
            · simp only [wkA, reduceIte, Nat.reduceEqDiff]
              (repeat' (first | exact trivial | rfl | exact rfl | exact subVs_d _ _ | exact subVs_dm _ _ | exact subD_refl _ | refine And.intro ?_ ?_))
            · simp only [wkA, reduceIte, Nat.reduceEqDiff]
              rw [hes]
              (repeat' (first | (simp; done) | exact trivial | rfl | exact rfl | exact subVs_d _ _ | exact subVs_dm _ _ | exact subD_refl _ | refine And.intro ?_ ?_))
        · obtain rfl : k = f.lots.length := by omega
          have hd := ged (Nat.le_refl f.lots.length)
          repeat' (first | (with_reducible refine aw_seq ?_) | ((with_reducible refine twoG_intro ?_ ?_) <;> intro h <;> first | contradiction | ((try simp only [h, avT]); (first | (guard_hyp h : true = true; clear h) | (guard_hyp h : false = false; clear h) | (revert h; intro _)))) | ((with_reducible refine two_intro ?_ ?_) <;> intro h <;> first | contradiction | ((first | (guard_hyp h : true = true; clear h) | (guard_hyp h : false = false; clear h) | (revert h; intro _)))) | ((with_reducible refine And.intro ?_ ?_); (focus (first | omega | rfl | decide | grind))) | (with_reducible refine aw_block ?_) | (with_reducible refine aw_scope ?_) | ((first | ((with_reducible refine aw_regionA T_ok ?_ ?_); kernel_rfl) | ((with_reducible refine aw_drawnA T_ok ?_ ?_ ?_ ?_); kernel_rfl; kernel_rfl; (focus (decide +kernel))) | ((with_reducible refine aw_drawnF T_ok ?_ ?_ ?_ ?_); kernel_rfl; kernel_rfl; (focus (decide +kernel))) | (with_reducible refine aw_label ?_) | ((with_reducible refine aw_rfM ?_ ?_); kernel_rfl) | (with_reducible refine aw_skip ?_) | (with_reducible refine aw_exit ?_) | ((with_reducible refine aw_condM ?_ ?_); kernel_rfl) | (with_reducible refine aw_ret ?_)); simp only [↓avP, avQ, avR, forall_const, implies_true, reduceIte, Nat.reduceEqDiff, Nat.reduceAdd, Nat.reduceSub, Int.reduceToNat, Nat.reduceLeDiff, Nat.reduceLT, reduceCtorEq, Int.reduceEq, avS, intD_B, lotD_B, flowD_B, snocI, snocL, ty_3, ty_26, ty_4, ty_24, ty_50, ty_22, ty_25, ← List.map_take, issD_get, hd]; try simp (disch := omega) only [av_w, av_t1, av_tp, Int.toNat_natCast]))
          rw [viewR, he, if_pos rfl]
          refine ⟨Sub.aggL ⟨SubD.refl _, SubD.sl ?_, trivial⟩, Sub.refl _⟩
          rw [viewEs, viewAt, List.map_map]
          exact SubEs.map _ _ _ fun k _ => viewE_sub f lines coal k
end Go.Proofs.Ytlnkmaejiceloaa


namespace Go.Proofs.Ytlnkmaejiceloaa
set_option linter.unusedSimpArgs false
set_option linter.unusedVariables false
open Go.RowKit
def upI (t v : Int) : List (Int × Int) → List (Int × Int)
  | [] => [(t, v)]
  | (u, w) :: l => if t = u then (t, v) :: l else (u, w) :: upI t v l
def dlI (t : Int) : List (Int × Int) → List (Int × Int)
  | [] => []
  | (u, w) :: l => if t = u then l else (u, w) :: dlI t l
theorem upI_new {t v : Int} : ∀ {m : List (Int × Int)}, t ∉ m.map (·.1) → upI t v m = m ++ [(t, v)]
  | [], _ => rfl
  | (u, w) :: l, h => by
    simp only [List.map_cons, List.mem_cons, not_or] at h
    rw [upI, if_neg h.1, upI_new h.2, List.cons_append]
theorem dlI_eq {t : Int} : ∀ {m : List (Int × Int)}, (m.map (·.1)).Nodup → dlI t m = m.filter fun p => !decide (p.1 = t)
  | [], _ => rfl
  | (u, w) :: l, h => by
    simp only [List.map_cons, List.nodup_cons] at h
    rw [dlI]
    by_cases e : t = u
    · rw [if_pos e, List.filter_cons, if_neg (by simp [e])]
      refine (List.filter_eq_self.2 fun p hp => ?_).symm
      have : p.1 ≠ t := fun e' => h.1 (by rw [← e, ← e']; exact List.mem_map_of_mem hp)
      simpa using this
    · rw [if_neg e, List.filter_cons, if_pos (by simp; exact fun e' => e e'.symm), dlI_eq h.2]
structure OfInv (S : Nat) (g : Nat → Int) (m : List (Int × Int)) : Prop where
  nd : (m.map (·.1)).Nodup
  mem : ∀ t v, (t, v) ∈ m ↔ ∃ s : Nat, s < S ∧ v = s ∧ g s = t
theorem OfInv.move {S : Nat} {g : Nat → Int} {m : List (Int × Int)} (h : OfInv S g m) {s0 : Nat} {t t' : Int} (hs : s0 < S) (hg : g s0 = t) (hu : ∀ s, s < S → g s = t → s = s0) (hf : ∀ s, s < S → g s ≠ t') :
    OfInv S (fun s => if g s = t then t' else g s) (dlI t (upI t' s0 m)) := by
  have hk : t' ∉ m.map (·.1) := fun hm => by
    obtain ⟨⟨u, v⟩, hp, e⟩ := List.mem_map.1 hm
    obtain ⟨s, h1, _, h3⟩ := (h.mem u v).1 hp
    exact hf s h1 (h3.trans e)
  have htt : t' ≠ t := fun e => hf s0 hs (hg.trans e.symm)
  have hnd : ((m ++ [(t', (s0 : Int))]).map (·.1)).Nodup := by
    rw [List.map_append, List.nodup_append]
    exact ⟨h.nd, by simp, fun a ha b hb e => hk (by simp at hb; rw [← hb, ← e]; exact ha)⟩
  rw [upI_new hk, dlI_eq hnd]
  refine ⟨hnd.sublist ((List.filter_sublist).map _), fun u v => ?_⟩
  rw [List.mem_filter, List.mem_append, h.mem]
  simp only [List.mem_singleton, Prod.mk.injEq, Bool.not_eq_true', decide_eq_false_iff_not]
  constructor
  · rintro ⟨⟨s, h1, h2, h3⟩ | ⟨h1, h2⟩, h4⟩
    · exact ⟨s, h1, h2, by rw [if_neg (by rw [h3]; exact h4)]; exact h3⟩
    · exact ⟨s0, hs, h2, by rw [if_pos hg, h1]⟩
  · rintro ⟨s, h1, h2, h3⟩
    by_cases e : g s = t
    · rw [if_pos e] at h3
      have := hu s h1 e
      subst this
      exact ⟨.inr ⟨h3.symm, h2⟩, by rw [← h3]; exact htt⟩
    · rw [if_neg e] at h3
      exact ⟨.inl ⟨s, h1, h2, h3⟩, by rw [← h3]; exact e⟩
theorem OfInv.congr {S : Nat} {g g' : Nat → Int} {m : List (Int × Int)} (h : OfInv S g m) (he : ∀ s, s < S → g s = g' s) : OfInv S g' m :=
  ⟨h.nd, fun t v => (h.mem t v).trans ⟨fun ⟨s, h1, h2, h3⟩ => ⟨s, h1, h2, (he s h1).symm.trans h3⟩, fun ⟨s, h1, h2, h3⟩ => ⟨s, h1, h2, (he s h1).trans h3⟩⟩⟩
section
variable {f : FlowP}
end
end Go.Proofs.Ytlnkmaejiceloaa


namespace Go.Proofs.Ytlnkmaejiceloaa
set_option linter.unusedSimpArgs false
set_option linter.unusedVariables false
open Go.RowKit
theorem mem_endsF {f : FlowP} {t : Int} : t ∈ endsF f ↔ 0 ≤ t ∧ t < befF f f.lots.length ∧ t ∉ goneF f f.lots.length := by
  unfold endsF
  rw [List.mem_filter, List.mem_map]
  simp only [List.mem_range, Bool.not_eq_true', decide_eq_false_iff_not]
  exact ⟨fun ⟨⟨n, h1, h2⟩, h3⟩ => ⟨by omega, by omega, h3⟩, fun ⟨h1, h2, h3⟩ => ⟨⟨t.toNat, by omega, by omega⟩, h3⟩⟩
end Go.Proofs.Ytlnkmaejiceloaa


namespace Go.Proofs.Ytlnkmaejiceloaa
set_option linter.unusedSimpArgs false
set_option linter.unusedVariables false
open Go.RowKit
abbrev takeF (f : FlowP) (k : Nat) : FlowP := ⟨f.senders, f.lots.take k⟩
section
variable {f : FlowP} {k i : Nat}
theorem OkF.take (hf : OkF f) (k : Nat) : OkF (takeF f k) := ⟨hf.s, Nat.le_trans (List.length_take_le' _ _) hf.l, fun x hx => hf.lots x (List.mem_of_mem_take hx)⟩
end
end Go.Proofs.Ytlnkmaejiceloaa


namespace Go.Proofs.Ytlnkmaejiceloaa
set_option linter.unusedSimpArgs false
set_option linter.unusedVariables false
open Go.RowKit
section
variable {f : FlowP} {x : LotP}
end
end Go.Proofs.Ytlnkmaejiceloaa


namespace Go.Proofs.Ytlnkmaejiceloaa
set_option linter.unusedSimpArgs false
set_option linter.unusedVariables false
open Go.RowKit
theorem coalB_of {l : List Int} (h1 : ∀ x ∈ l, officeB x = true) (h2 : l.Pairwise (· < ·)) : coalB l = true := by
  unfold coalB
  rw [List.all_eq_true]
  intro k hk
  have hk' : k < l.length := by simpa using hk
  have e1 : l.getD k 0 = l[k] := by simp [List.getD, hk']
  have h3 := h1 _ (List.getElem_mem hk')
  rw [e1, h3]
  rcases Nat.eq_zero_or_pos k with h0 | h0
  · simp [h0]
  · have e2 : l.getD (k - 1) 0 = l[k - 1] := by simp [List.getD, show k - 1 < l.length by omega]
    rw [e2]
    have := List.pairwise_iff_getElem.1 h2 (k - 1) k (by omega) hk' (by omega)
    simp
    omega
section
variable {f : FlowP} {lines : List (List Int)} {coal : List Int}
theorem view_ok (hc : checkF f = 0) (hk : knownF f = true) (hl : linesB lines f.lots.length = true) (ho : coalB coal = true) : errV f lines coal = 0 ∧ viewR f lines coal = ⟨f.senders, viewAt f lines coal f.lots.length⟩ := by
  have : errV f lines coal = 0 := by
    unfold errV
    rw [if_neg (by simpa using hc), if_pos (by rw [hk, hl, ho]; rfl)]
  exact ⟨this, by rw [viewR, if_pos this]⟩
theorem viewAt_get {k : Nat} (h : k < f.lots.length) : (viewAt f lines coal f.lots.length).getD k default = viewL f lines coal k := by
  unfold viewAt
  rw [List.getD, List.getElem?_map, List.getElem?_range h]
  rfl
theorem viewL_inn (k : Nat) : (viewL f lines coal k).inn = (f.lots.getD k default).inn := by
  unfold viewL; split <;> rfl
theorem view_inns : ∀ k, k ≤ f.lots.length → ((viewAt f lines coal f.lots.length).take k).map (·.inn) = (f.lots.take k).map (·.inn) := by
  intro k hk
  refine List.ext_getElem? fun i => ?_
  rw [List.getElem?_map, List.getElem?_map, List.getElem?_take, List.getElem?_take]
  by_cases hi : i < k
  · rw [if_pos hi, if_pos hi]
    have e1 : (viewAt f lines coal f.lots.length)[i]? = some (viewL f lines coal i) := by
      unfold viewAt; rw [List.getElem?_map, List.getElem?_range (by omega)]; rfl
    have e2 : f.lots[i]? = some (f.lots.getD i default) := by rw [List.getD, List.getElem?_eq_getElem (by omega)]; rfl
    rw [e1, e2, Option.map_some, Option.map_some, viewL_inn]
  · rw [if_neg hi, if_neg hi]
abbrev vF (f : FlowP) (lines : List (List Int)) (coal : List Int) : FlowP := ⟨f.senders, viewAt f lines coal f.lots.length⟩
theorem view_bef {k : Nat} (hk : k ≤ f.lots.length) : befF (vF f lines coal) k = befF f k := by
  unfold befF
  have := congrArg (fun l : List (List Int) => (l.map List.length).sum) (view_inns (f := f) (lines := lines) (coal := coal) k hk)
  simp only [List.map_map] at this
  have e : (List.length ∘ fun x : LotP => x.inn) = fun x : LotP => x.inn.length := rfl
  rw [e] at this
  show f.senders + _ = f.senders + _
  rw [this]
theorem view_gone {k : Nat} (hk : k ≤ f.lots.length) : goneF (vF f lines coal) k = goneF f k := by
  unfold goneF
  rw [List.flatMap_def, List.flatMap_def, view_inns k hk]
theorem view_check (hc : checkF f = 0) : checkF (vF f lines coal) = 0 := by
  obtain ⟨z1, z2, z3, z4, z5⟩ := checkF_zero hc
  have hl : (vF f lines coal).lots.length = f.lots.length := viewAt_len _ _ _ _
  unfold checkF
  rw [hl, view_bef (Nat.le_refl _), if_neg (by show ¬ (64 < f.senders ∨ _); omega), if_neg (by show ¬ f.senders < 0; omega), if_pos]
  unfold validF
  rw [hl, List.all_eq_true]
  intro i hi
  have hil : i < f.lots.length := by simpa using hi
  have hg := goodL_at hc hil
  unfold okAt
  rw [view_bef (by omega), view_gone (by omega), viewAt_get hil, goodL_iff]
  unfold viewL
  split
  · exact hg
  · exact ⟨hg.ne, hg.nd, hg.fr, fun h => by simp at h, fun _ => rfl⟩
theorem okF_vF (hf : OkF f) : OkF (vF f lines coal) := by
  refine ⟨hf.s, by rw [viewAt_len]; exact hf.l, fun x hx => ?_⟩
  obtain ⟨k, _, rfl⟩ := List.mem_map.1 hx
  unfold viewL
  split
  · exact hf.at k
  · exact ⟨(hf.at k).inn, by simp, (hf.at k).li, by simp⟩
end
end Go.Proofs.Ytlnkmaejiceloaa


namespace Go.Proofs.Ytlnkmaejiceloaa
set_option linter.unusedSimpArgs false
set_option linter.unusedVariables false
open Go.RowKit
def setOf (ws : List Nat) (n : Nat) : Bool := (ws.getD (n / 64) 0).testBit (n % 64)
def addS (ws : List Nat) (n : Nat) : List Nat := ws.set (n / 64) (ws.getD (n / 64) 0 ||| 2 ^ (n % 64))
def OkW (ws : List Nat) : Prop := ∀ w ∈ ws, w < 18446744073709551616
theorem OkW.at {ws : List Nat} (h : OkW ws) (k : Nat) : ws.getD k 0 < 18446744073709551616 := by
  rcases Nat.lt_or_ge k ws.length with hk | hk
  · rw [List.getD, List.getElem?_eq_getElem hk]; exact h _ (by simp)
  · rw [List.getD, List.getElem?_eq_none hk]; decide
theorem or_lt {w r : Nat} (hw : w < 18446744073709551616) (hr : r < 64) : w ||| 2 ^ r < 18446744073709551616 := by
  have h1 : (18446744073709551616 : Nat) = 2 ^ 64 := by decide
  rw [h1] at hw ⊢
  exact Nat.or_lt_two_pow hw (Nat.pow_lt_pow_right (by omega) hr)
theorem OkW.add {ws : List Nat} (h : OkW ws) (n : Nat) : OkW (addS ws n) := fun w hw => by
  unfold addS at hw
  rcases List.mem_or_eq_of_mem_set hw with hw | rfl
  · exact h w hw
  · exact or_lt (h.at _) (Nat.mod_lt _ (by omega))
theorem addS_len (ws : List Nat) (n : Nat) : (addS ws n).length = ws.length := by simp [addS]
theorem setOf_add {ws : List Nat} {n : Nat} (h : n / 64 < ws.length) (m : Nat) : setOf (addS ws n) m = (setOf ws m || decide (m = n)) := by
  unfold setOf addS
  by_cases hq : n / 64 = m / 64
  · rw [List.getD, ← hq, List.getElem?_set_self h, Option.getD_some, Nat.testBit_or, Nat.testBit_two_pow]
    congr 1
    rw [decide_eq_decide]
    constructor
    · intro hr
      have h1 := Nat.div_add_mod n 64
      have h2 := Nat.div_add_mod m 64
      omega
    · intro e; rw [e]
  · rw [List.getD, List.getElem?_set_ne hq, ← List.getD]
    have : decide (m = n) = false := decide_eq_false (fun e => hq (by rw [e]))
    rw [this, Bool.or_false]
theorem setOf_none (k m : Nat) : setOf (List.replicate k 0) m = false := by
  unfold setOf
  have : (List.replicate k 0).getD (m / 64) 0 = 0 := by
    simp only [List.getD_eq_getElem?_getD, List.getElem?_replicate]
    split <;> rfl
  rw [this, Nat.zero_testBit]
theorem okW_none (k : Nat) : OkW (List.replicate k 0) := fun w hw => by rw [(List.mem_replicate.1 hw).2]; decide
theorem u64_wrap {n : Nat} (h : n < 18446744073709551616) : IntKind.u64.wrap (n : Int) = n := by
  simp only [IntKind.wrap, IntKind.signed, IntKind.bits]; simp; omega
theorem ofInt64 {q : Nat} (h : q < 18446744073709551616) : (BitVec.ofInt 64 (q : Int)).toNat = q := by
  rw [BitVec.toNat_ofInt]; omega
theorem has_word {w : Nat} {r : Int} (hw : w < 18446744073709551616) (h0 : 0 ≤ r) (h1 : r < 64) : ((IntKind.u64.wrap (((BitVec.ofInt IntKind.u64.bits ((w : Int).fdiv (2 ^ min r.toNat IntKind.u64.bits)) &&& BitVec.ofInt IntKind.u64.bits 1).toNat : Nat) : Int)) == 1) = w.testBit r.toNat := by
  have hb : IntKind.u64.bits = 64 := rfl
  rw [hb, Nat.min_eq_left (by omega)]
  obtain ⟨k, rfl⟩ : ∃ k : Nat, r = k := ⟨r.toNat, by omega⟩
  rw [Int.toNat_natCast]
  have hd : (w : Int).fdiv (2 ^ k) = ((w / 2 ^ k : Nat) : Int) := by
    rw [Int.fdiv_eq_ediv_of_nonneg]
    · simp
    · exact Int.le_of_lt (Int.pow_pos (by omega))
  have hlt : w / 2 ^ k < 18446744073709551616 := Nat.lt_of_le_of_lt (Nat.div_le_self _ _) hw
  rw [hd]
  have e1 : (BitVec.ofInt 64 ((w / 2 ^ k : Nat) : Int) &&& BitVec.ofInt 64 1).toNat = w / 2 ^ k % 2 := by
    rw [BitVec.toNat_and]
    have a1 : (BitVec.ofInt 64 ((w / 2 ^ k : Nat) : Int)).toNat = w / 2 ^ k := ofInt64 hlt
    have a2 : (BitVec.ofInt 64 1).toNat = 1 := by decide
    rw [a1, a2, Nat.and_one_is_mod]
  rw [e1, u64_wrap (by omega), Nat.testBit_eq_decide_div_mod_eq]
  rw [Bool.eq_iff_iff, beq_iff_eq, decide_eq_true_eq]
  omega
theorem add_word {w : Nat} {r : Int} (hw : w < 18446744073709551616) (h0 : 0 ≤ r) (h1 : r < 64) : IntKind.u64.wrap (((BitVec.ofInt IntKind.u64.bits (w : Int) ||| BitVec.ofInt IntKind.u64.bits (IntKind.u64.wrap (1 * 2 ^ min r.toNat IntKind.u64.bits))).toNat : Nat) : Int) = ((w ||| 2 ^ r.toNat : Nat) : Int) := by
  have hb : IntKind.u64.bits = 64 := rfl
  rw [hb, Nat.min_eq_left (by omega)]
  obtain ⟨k, rfl⟩ : ∃ k : Nat, r = k := ⟨r.toNat, by omega⟩
  rw [Int.toNat_natCast]
  have hk : (2 : Nat) ^ k < 2 ^ 64 := Nat.pow_lt_pow_right (by omega) (by omega)
  have h64 : (18446744073709551616 : Nat) = 2 ^ 64 := by decide
  have e0 : IntKind.u64.wrap (1 * 2 ^ k) = ((2 ^ k : Nat) : Int) := by
    have : (1 * 2 ^ k : Int) = ((2 ^ k : Nat) : Int) := by simp
    rw [this, u64_wrap (by omega)]
  rw [e0]
  have a1 : (BitVec.ofInt 64 (w : Int)).toNat = w := ofInt64 hw
  have a2 : (BitVec.ofInt 64 ((2 ^ k : Nat) : Int)).toNat = 2 ^ k := ofInt64 (by omega)
  rw [BitVec.toNat_or, a1, a2, u64_wrap]
  rw [h64] at hw ⊢
  exact Nat.or_lt_two_pow hw hk
theorem has_wordN {w r : Nat} (hw : w < 18446744073709551616) (h1 : r < 64) : (IntKind.u64.wrap (((BitVec.ofInt IntKind.u64.bits ((w : Int).fdiv (2 ^ min r IntKind.u64.bits)) &&& BitVec.ofInt IntKind.u64.bits 1).toNat : Nat) : Int) == 1) = w.testBit r := by
  have := has_word (r := (r : Int)) hw (by omega) (by omega)
  rwa [Int.toNat_natCast] at this
theorem add_wordN {w r : Nat} (hw : w < 18446744073709551616) (h1 : r < 64) : IntKind.u64.wrap (((BitVec.ofInt IntKind.u64.bits (w : Int) ||| BitVec.ofInt IntKind.u64.bits (IntKind.u64.wrap (1 * 2 ^ min r IntKind.u64.bits))).toNat : Nat) : Int) = ((w ||| 2 ^ r : Nat) : Int) := by
  have := add_word (r := (r : Int)) hw (by omega) (by omega)
  rwa [Int.toNat_natCast] at this
end Go.Proofs.Ytlnkmaejiceloaa


namespace Go.Proofs.Ytlnkmaejiceloaa
set_option linter.unusedSimpArgs false
set_option linter.unusedVariables false
open Go.RowKit
def canB (x : LotP) (sp : List Int) (j : Nat) : Bool := (List.range x.inn.length).any fun i => decide (x.inn.getD i 0 ∈ sp) && (!x.known || (x.perm.getD i 0 == (j : Int)))
def outL (x : LotP) (n : Int) (sp : List Int) (k : Nat) : List Int := ((List.range k).filter (canB x sp)).map fun j : Nat => n + j
def folL (x : LotP) (n : Int) (sp : List Int) : List Int := sp ++ outL x n sp x.inn.length
def spL (f : FlowP) (s : Int) : Nat → List Int
  | 0 => [s]
  | k + 1 => folL (f.lots.getD k default) (befF f k) (spL f s k)
theorem outL_succ (x : LotP) (n : Int) (sp : List Int) (k : Nat) : outL x n sp (k + 1) = if canB x sp k = true then outL x n sp k ++ [n + (k : Int)] else outL x n sp k := by
  unfold outL
  rw [List.range_succ, List.filter_append, List.map_append]
  by_cases h : canB x sp k = true <;> simp [h]
theorem outL_len (x : LotP) (n : Int) (sp : List Int) (k : Nat) : (outL x n sp k).length ≤ k := by
  unfold outL
  rw [List.length_map]
  exact Nat.le_trans (List.length_filter_le _ _) (by simp)
theorem mem_outL {x : LotP} {n : Int} {sp : List Int} {k : Nat} {m : Int} : m ∈ outL x n sp k ↔ ∃ j : Nat, j < k ∧ m = n + j ∧ canB x sp j = true := by
  unfold outL
  rw [List.mem_map]
  constructor
  · rintro ⟨j, hj, rfl⟩
    rw [List.mem_filter, List.mem_range] at hj
    exact ⟨j, hj.1, rfl, hj.2⟩
  · rintro ⟨j, hj, rfl, h⟩
    exact ⟨j, List.mem_filter.2 ⟨List.mem_range.2 hj, h⟩, rfl⟩
theorem canB_iff {x : LotP} {sp : List Int} {j : Nat} : canB x sp j = true ↔ ∃ i, i < x.inn.length ∧ x.inn.getD i 0 ∈ sp ∧ (x.known = false ∨ x.perm.getD i 0 = (j : Int)) := by
  unfold canB
  rw [List.any_eq_true]
  constructor
  · rintro ⟨i, hi, h⟩
    refine ⟨i, by simpa using hi, ?_⟩
    simpa using h
  · rintro ⟨i, hi, h⟩
    exact ⟨i, by simpa using hi, by simpa using h⟩
theorem mem_spL_succ {f : FlowP} {s : Int} {k : Nat} {m : Int} : m ∈ spL f s (k + 1) ↔ m ∈ spL f s k ∨ ∃ j : Nat, j < (f.lots.getD k default).inn.length ∧ m = befF f k + j ∧ canB (f.lots.getD k default) (spL f s k) j = true := by
  rw [spL, folL, List.mem_append, mem_outL]
def stW (bef : Nat) (x : LotP) (i : Nat) (ws : List Nat) : List Nat :=
  if x.known = false then addS ws (bef + i) else if setOf ws (x.inn.getD i 0).toNat = true then addS ws (bef + (x.perm.getD i 0).toNat) else ws
def inW (bef : Nat) (x : LotP) : Nat → List Nat → List Nat
  | 0, ws => ws
  | i + 1, ws => stW bef x i (inW bef x i ws)
def someB (x : LotP) (ws : List Nat) : Bool := x.inn.any fun s => setOf ws s.toNat
def lotW (bef : Nat) (x : LotP) (i : Nat) (ws : List Nat) : List Nat := if someB x ws = true then inW bef x i ws else ws
def nW (f : FlowP) : Nat := (befF f f.lots.length).toNat / 64 + 1
def spW (f : FlowP) (s : Nat) : Nat → List Nat
  | 0 => addS (List.replicate (nW f) 0) s
  | k + 1 => lotW (befF f k).toNat (f.lots.getD k default) (f.lots.getD k default).inn.length (spW f s k)
theorem stW_len (bef : Nat) (x : LotP) (i : Nat) (ws : List Nat) : (stW bef x i ws).length = ws.length := by
  unfold stW; split <;> (try split) <;> simp [addS_len]
theorem inW_len (bef : Nat) (x : LotP) (ws : List Nat) : ∀ i, (inW bef x i ws).length = ws.length
  | 0 => rfl
  | i + 1 => by rw [inW, stW_len, inW_len bef x ws i]
theorem lotW_len (bef : Nat) (x : LotP) (i : Nat) (ws : List Nat) : (lotW bef x i ws).length = ws.length := by
  unfold lotW; split
  · exact inW_len _ _ _ _
  · rfl
theorem spW_len (f : FlowP) (s : Nat) : ∀ k, (spW f s k).length = nW f
  | 0 => by rw [spW, addS_len, List.length_replicate]
  | k + 1 => by rw [spW, lotW_len, spW_len f s k]
theorem stW_ok {bef : Nat} {x : LotP} {i : Nat} {ws : List Nat} (h : OkW ws) : OkW (stW bef x i ws) := by
  unfold stW; split
  · exact h.add _
  · split
    · exact h.add _
    · exact h
theorem inW_ok {bef : Nat} {x : LotP} {ws : List Nat} (h : OkW ws) : ∀ i, OkW (inW bef x i ws)
  | 0 => h
  | i + 1 => stW_ok (inW_ok h i)
theorem lotW_ok {bef : Nat} {x : LotP} {i : Nat} {ws : List Nat} (h : OkW ws) : OkW (lotW bef x i ws) := by
  unfold lotW; split
  · exact inW_ok h i
  · exact h
theorem spW_ok (f : FlowP) (s : Nat) : ∀ k, OkW (spW f s k)
  | 0 => (okW_none _).add _
  | k + 1 => lotW_ok (spW_ok f s k)
theorem inW_set {bef : Nat} {x : LotP} {ws : List Nat} (hsz : bef + x.inn.length ≤ 64 * ws.length) (hin : ∀ s ∈ x.inn, 0 ≤ s ∧ s < (bef : Int)) (hp : x.known = true → x.perm.length = x.inn.length ∧ ∀ p ∈ x.perm, 0 ≤ p ∧ p < (x.inn.length : Int)) : ∀ i, i ≤ x.inn.length → ∀ m, setOf (inW bef x i ws) m = (setOf ws m || (List.range i).any fun k => if x.known = false then decide (m = bef + k) else setOf ws (x.inn.getD k 0).toNat && decide (m = bef + (x.perm.getD k 0).toNat))
  | 0, _, m => by simp [inW]
  | i + 1, hi, m => by
    have ih := inW_set hsz hin hp i (by omega)
    have hl := inW_len bef x ws i
    rw [inW, List.range_succ, List.any_append]
    simp only [List.any_cons, List.any_nil, Bool.or_false]
    rw [← Bool.or_assoc, ← ih m]
    unfold stW
    by_cases hk : x.known = false
    · rw [if_pos hk, if_pos hk, setOf_add (by rw [hl]; omega)]
    · rw [if_neg hk, if_neg hk]
      have hkt : x.known = true := by simpa using hk
      obtain ⟨hp1, hp2⟩ := hp hkt
      have hs := hin _ (getD_mem (show i < x.inn.length by omega))
      have hpi := hp2 _ (getD_mem (show i < x.perm.length by omega))
      have hold : setOf (inW bef x i ws) (x.inn.getD i 0).toNat = setOf ws (x.inn.getD i 0).toNat := by
        rw [ih]
        have : ((List.range i).any fun k => if x.known = false then decide ((x.inn.getD i 0).toNat = bef + k) else setOf ws (x.inn.getD k 0).toNat && decide ((x.inn.getD i 0).toNat = bef + (x.perm.getD k 0).toNat)) = false := by
          rw [List.any_eq_false]
          intro k _
          rw [if_neg hk, show decide ((x.inn.getD i 0).toNat = bef + (x.perm.getD k 0).toNat) = false from decide_eq_false (by omega), Bool.and_false]
          simp
        rw [this, Bool.or_false]
      rw [hold]
      by_cases hq : setOf ws (x.inn.getD i 0).toNat = true
      · rw [if_pos hq, hq, Bool.true_and, setOf_add (by rw [hl]; omega)]
      · rw [if_neg hq]
        simp only [Bool.not_eq_true] at hq
        rw [hq, Bool.false_and, Bool.or_false]
theorem spW_set {f : FlowP} (hc : checkF f = 0) {s : Nat} (hs : (s : Int) < f.senders) : ∀ k, k ≤ f.lots.length → (∀ m, setOf (spW f s k) m = decide ((m : Int) ∈ spL f s k)) ∧ ∀ m ∈ spL f s k, 0 ≤ m ∧ m < befF f k
  | 0, _ => by
    obtain ⟨z1, z2, z3, z4, _⟩ := checkF_zero hc
    have hb := befF_mono (f := f) (Nat.le_refl f.lots.length)
    refine ⟨fun m => ?_, fun m hm => ?_⟩
    · rw [spW, setOf_add (by rw [List.length_replicate]; unfold nW; omega), setOf_none, Bool.false_or, decide_eq_decide, spL, List.mem_singleton]
      omega
    · rw [spL, List.mem_singleton] at hm
      subst hm
      unfold befF
      simp
      omega
  | k + 1, hk => by
    obtain ⟨ih, ihb⟩ := spW_set hc hs k (by omega)
    have hg := goodL_at hc (k := k) (by omega)
    have hb1 := befF_succ (f := f) (k := k) (by omega)
    have hb2 := befF_mono (f := f) (k := k + 1) hk
    have hb3 := befF_mono (f := f) (k := k) (by omega)
    obtain ⟨z1, z2, z3, z4, _⟩ := checkF_zero hc
    rw [spW]
    have hmem : ∀ m, m ∈ spL f s (k + 1) ↔ _ := fun m => mem_spL_succ (f := f) (s := s) (k := k) (m := m)
    obtain ⟨x, hx⟩ : ∃ x, x = f.lots.getD k default := ⟨_, rfl⟩
    obtain ⟨b, hbk⟩ : ∃ b : Nat, befF f k = b := ⟨(befF f k).toNat, by omega⟩
    simp only [← hx, hbk] at hmem hg hb1 ⊢
    rw [Int.toNat_natCast]
    refine ⟨fun m => ?_, fun m hm => ?_⟩
    · have hin : ∀ t ∈ x.inn, 0 ≤ t ∧ t < (b : Int) := fun t ht => ⟨(hg.fr t ht).1, (hg.fr t ht).2.1⟩
      have hset := inW_set (bef := b) (x := x) (ws := spW f s k) (by rw [spW_len]; unfold nW; omega) hin (fun h => ⟨(hg.pl h).1, (hg.pl h).2.2⟩) x.inn.length (Nat.le_refl _) m
      have hat : ∀ i, i < x.inn.length → setOf (spW f s k) (x.inn.getD i 0).toNat = decide (x.inn.getD i 0 ∈ spL f s k) := fun i hi => by
        have := hin _ (getD_mem hi)
        rw [ih, Int.toNat_of_nonneg this.1]
      have hsome : someB x (spW f s k) = true ↔ ∃ i, i < x.inn.length ∧ x.inn.getD i 0 ∈ spL f s k := by
        unfold someB
        rw [List.any_eq_true]
        constructor
        · rintro ⟨t, ht, h⟩
          obtain ⟨i, hi, rfl⟩ := List.getElem_of_mem ht
          have e : x.inn.getD i 0 = x.inn[i] := by simp [List.getD, hi]
          refine ⟨i, hi, ?_⟩
          have := hat i hi
          rw [e, h] at this
          rw [e]
          simpa using this.symm
        · rintro ⟨i, hi, h⟩
          exact ⟨_, getD_mem hi, by rw [hat i hi]; exact decide_eq_true h⟩
      unfold lotW
      rw [Bool.eq_iff_iff, decide_eq_true_eq, hmem]
      by_cases hsm : someB x (spW f s k) = true
      · rw [if_pos hsm, hset, Bool.or_eq_true, ih, decide_eq_true_eq, List.any_eq_true]
        refine or_congr Iff.rfl ?_
        constructor
        · rintro ⟨i, hi, h⟩
          have hi' : i < x.inn.length := by simpa using hi
          by_cases hkn : x.known = false
          · rw [if_pos hkn, decide_eq_true_eq] at h
            obtain ⟨i0, h1, h2⟩ := hsome.1 hsm
            exact ⟨i, hi', by omega, canB_iff.2 ⟨i0, h1, h2, .inl hkn⟩⟩
          · have hkt : x.known = true := by simpa using hkn
            rw [if_neg hkn, Bool.and_eq_true, hat i hi', decide_eq_true_eq, decide_eq_true_eq] at h
            have hp := (hg.pl hkt).2.2 _ (getD_mem (show i < x.perm.length by rw [(hg.pl hkt).1]; exact hi'))
            refine ⟨(x.perm.getD i 0).toNat, by omega, by omega, canB_iff.2 ⟨i, hi', h.1, .inr ?_⟩⟩
            rw [Int.toNat_of_nonneg hp.1]
        · rintro ⟨j, hj, hm, h⟩
          obtain ⟨i, hi, h1, h2⟩ := canB_iff.1 h
          by_cases hkn : x.known = false
          · exact ⟨j, by simpa using hj, by rw [if_pos hkn, decide_eq_true_eq]; omega⟩
          · have hkt : x.known = true := by simpa using hkn
            have h3 : x.perm.getD i 0 = j := h2.resolve_left (by rw [hkt]; simp)
            refine ⟨i, by simpa using hi, ?_⟩
            rw [if_neg hkn, Bool.and_eq_true, hat i hi, decide_eq_true_eq, decide_eq_true_eq, h3]
            exact ⟨h1, by omega⟩
      · rw [if_neg hsm, ih, decide_eq_true_eq]
        refine ⟨Or.inl, fun h => h.resolve_right ?_⟩
        rintro ⟨j, hj, hm, h⟩
        obtain ⟨i, hi, h1, h2⟩ := canB_iff.1 h
        exact hsm (hsome.2 ⟨i, hi, h1⟩)
    · rcases (hmem m).1 hm with h | ⟨j, hj, hm, _⟩
      · have := ihb m h
        omega
      · omega
def endS (f : FlowP) (s : Int) : List Int := (endsF f).filter fun t => decide (t ∈ spL f s f.lots.length)
def errE (f : FlowP) (s : Int) : Int := if checkF f ≠ 0 then checkF f else if s < 0 ∨ f.senders ≤ s then 1 else 0
def endR (f : FlowP) (s : Int) : List Int := if errE f s = 0 then endS f s else []
end Go.Proofs.Ytlnkmaejiceloaa

