import Derived.Test.YtlnkmaejiceloaaHN23
namespace Go.Proofs.Ytlnkmaejiceloaa
set_option linter.unusedSimpArgs false
set_option linter.unusedVariables false
open Go.RowKit
set_option maxRecDepth 100000
set_option maxHeartbeats 4000000
theorem bright_spec (f : FlowP) (lines : List (List Int)) (o s : Int) (ho : OkV f lines) : Spec Try.prog 16 [.agg (flowD f), aIss lines, aI o, aI s] (.r1 (aB (rightB f lines o s))) := by
  refine spec_of T_ok Try.func16 (by dsimp only [Try.f16]) rfl rfl (by simp) fun w F => ?_
  have h1 := qbfew_spec f lines o ho.f.l ho.l (fun x hx => (ho.x x hx).1)
  have h2 := qfcheck_spec f ho.f
  have h3 := qknown_spec f ho.f.l
  have h4 := qlines_spec lines f.lots.length ho.l (fun x hx => (ho.x x hx).1)
  obtain ⟨R, hR⟩ : ∃ R, R = rightB f lines o s := ⟨_, rfl⟩
  have hK : ((List.range f.lots.length).all fun k => !(!(f.lots.getD k default).known)) = knownF f := by first | rfl | (rw [knownF]; done) | (rw [knownF]; simp)
  rw [hK] at h3
  rw [← hR]
  rw [rightB] at hR
  generalize fewQ f lines o = b1 at h1 hR
  generalize hb2 : (checkF f == 0) = b2 at hR
  generalize knownF f = b3 at h3 hR
  generalize linesB lines f.lots.length = b4 at h4 hR
  cases b1
  · subst hR
    repeat' (first | (with_reducible refine aw_seq ?_) | ((with_reducible refine twoG_intro ?_ ?_) <;> intro hTw <;> first | (exact Bool.noConfusion hTw) | ((try simp only [hTw, avT]); (first | (guard_hyp hTw : true = true; clear hTw) | (guard_hyp hTw : false = false; clear hTw) | (revert hTw; intro _)))) | ((with_reducible refine two_intro ?_ ?_) <;> intro hTw <;> first | (exact Bool.noConfusion hTw) | ((first | (guard_hyp hTw : true = true; clear hTw) | (guard_hyp hTw : false = false; clear hTw) | (revert hTw; intro _)))) | ((with_reducible refine And.intro ?_ ?_); (focus (first | omega | rfl | decide | grind))) | (with_reducible refine aw_block ?_) | (with_reducible refine aw_scope ?_) | ((first | ((with_reducible refine aw_regionA T_ok ?_ ?_); (focus kernel_rfl)) | ((with_reducible refine aw_drawnA T_ok ?_ ?_ ?_ ?_); (focus kernel_rfl); (focus kernel_rfl); (focus (decide +kernel))) | ((with_reducible refine aw_drawnF T_ok ?_ ?_ ?_ ?_); (focus kernel_rfl); (focus kernel_rfl); (focus (decide +kernel))) | ((with_reducible refine callK_intro (h1) (by with_unfolding_all rfl) ?_ ?_); (focus kernel_rfl)) | ((with_reducible refine callI_spec (h1) (by with_unfolding_all rfl) ?_ ?_ ?_); (focus kernel_rfl); (focus kernel_rfl)) | ((with_reducible refine callK_intro (h2) (by with_unfolding_all rfl) ?_ ?_); (focus kernel_rfl)) | ((with_reducible refine callI_spec (h2) (by with_unfolding_all rfl) ?_ ?_ ?_); (focus kernel_rfl); (focus kernel_rfl)) | ((with_reducible refine callK_intro (h3) (by with_unfolding_all rfl) ?_ ?_); (focus kernel_rfl)) | ((with_reducible refine callI_spec (h3) (by with_unfolding_all rfl) ?_ ?_ ?_); (focus kernel_rfl); (focus kernel_rfl)) | ((with_reducible refine callK_intro (h4) (by with_unfolding_all rfl) ?_ ?_); (focus kernel_rfl)) | ((with_reducible refine callI_spec (h4) (by with_unfolding_all rfl) ?_ ?_ ?_); (focus kernel_rfl); (focus kernel_rfl)) | (with_reducible refine aw_label ?_) | ((with_reducible refine aw_rfM ?_ ?_); (focus kernel_rfl)) | (with_reducible refine aw_skip ?_) | (with_reducible refine aw_exit ?_) | ((with_reducible refine aw_condM ?_ ?_); (focus kernel_rfl)) | (with_reducible refine aw_ret ?_)); simp only [↓avP, avQ, if_true, if_false, forall_const, beq_self_eq_true, eq_self, ne_eq, implies_true, reduceIte, Nat.reduceEqDiff, Nat.reduceAdd, Nat.reduceSub, Int.reduceToNat, Nat.reduceLeDiff, Nat.reduceLT, reduceCtorEq, Int.reduceEq, retQ, retL, resV, RetV, RetOk, SubL, intD_B, lotD_B, flowD_B, snocI, snocL, ty_3, ty_26, ty_4, ty_24, ty_50, ty_22, ty_25, issD_get, fl_ex, hb2]; try simp (disch := omega) only [av_w, av_t1, av_tp, Int.toNat_natCast]))
    all_goals first | exact Sub.refl _ | trace_state
  cases b2
  · subst hR
    repeat' (first | (with_reducible refine aw_seq ?_) | ((with_reducible refine twoG_intro ?_ ?_) <;> intro hTw <;> first | (exact Bool.noConfusion hTw) | ((try simp only [hTw, avT]); (first | (guard_hyp hTw : true = true; clear hTw) | (guard_hyp hTw : false = false; clear hTw) | (revert hTw; intro _)))) | ((with_reducible refine two_intro ?_ ?_) <;> intro hTw <;> first | (exact Bool.noConfusion hTw) | ((first | (guard_hyp hTw : true = true; clear hTw) | (guard_hyp hTw : false = false; clear hTw) | (revert hTw; intro _)))) | ((with_reducible refine And.intro ?_ ?_); (focus (first | omega | rfl | decide | grind))) | (with_reducible refine aw_block ?_) | (with_reducible refine aw_scope ?_) | ((first | ((with_reducible refine aw_regionA T_ok ?_ ?_); (focus kernel_rfl)) | ((with_reducible refine aw_drawnA T_ok ?_ ?_ ?_ ?_); (focus kernel_rfl); (focus kernel_rfl); (focus (decide +kernel))) | ((with_reducible refine aw_drawnF T_ok ?_ ?_ ?_ ?_); (focus kernel_rfl); (focus kernel_rfl); (focus (decide +kernel))) | ((with_reducible refine callK_intro (h1) (by with_unfolding_all rfl) ?_ ?_); (focus kernel_rfl)) | ((with_reducible refine callI_spec (h1) (by with_unfolding_all rfl) ?_ ?_ ?_); (focus kernel_rfl); (focus kernel_rfl)) | ((with_reducible refine callK_intro (h2) (by with_unfolding_all rfl) ?_ ?_); (focus kernel_rfl)) | ((with_reducible refine callI_spec (h2) (by with_unfolding_all rfl) ?_ ?_ ?_); (focus kernel_rfl); (focus kernel_rfl)) | ((with_reducible refine callK_intro (h3) (by with_unfolding_all rfl) ?_ ?_); (focus kernel_rfl)) | ((with_reducible refine callI_spec (h3) (by with_unfolding_all rfl) ?_ ?_ ?_); (focus kernel_rfl); (focus kernel_rfl)) | ((with_reducible refine callK_intro (h4) (by with_unfolding_all rfl) ?_ ?_); (focus kernel_rfl)) | ((with_reducible refine callI_spec (h4) (by with_unfolding_all rfl) ?_ ?_ ?_); (focus kernel_rfl); (focus kernel_rfl)) | (with_reducible refine aw_label ?_) | ((with_reducible refine aw_rfM ?_ ?_); (focus kernel_rfl)) | (with_reducible refine aw_skip ?_) | (with_reducible refine aw_exit ?_) | ((with_reducible refine aw_condM ?_ ?_); (focus kernel_rfl)) | (with_reducible refine aw_ret ?_)); simp only [↓avP, avQ, if_true, if_false, forall_const, beq_self_eq_true, eq_self, ne_eq, implies_true, reduceIte, Nat.reduceEqDiff, Nat.reduceAdd, Nat.reduceSub, Int.reduceToNat, Nat.reduceLeDiff, Nat.reduceLT, reduceCtorEq, Int.reduceEq, retQ, retL, resV, RetV, RetOk, SubL, intD_B, lotD_B, flowD_B, snocI, snocL, ty_3, ty_26, ty_4, ty_24, ty_50, ty_22, ty_25, issD_get, fl_ex, hb2]; try simp (disch := omega) only [av_w, av_t1, av_tp, Int.toNat_natCast]))
    all_goals first | exact Sub.refl _ | trace_state
  cases b3
  · subst hR
    repeat' (first | (with_reducible refine aw_seq ?_) | ((with_reducible refine twoG_intro ?_ ?_) <;> intro hTw <;> first | (exact Bool.noConfusion hTw) | ((try simp only [hTw, avT]); (first | (guard_hyp hTw : true = true; clear hTw) | (guard_hyp hTw : false = false; clear hTw) | (revert hTw; intro _)))) | ((with_reducible refine two_intro ?_ ?_) <;> intro hTw <;> first | (exact Bool.noConfusion hTw) | ((first | (guard_hyp hTw : true = true; clear hTw) | (guard_hyp hTw : false = false; clear hTw) | (revert hTw; intro _)))) | ((with_reducible refine And.intro ?_ ?_); (focus (first | omega | rfl | decide | grind))) | (with_reducible refine aw_block ?_) | (with_reducible refine aw_scope ?_) | ((first | ((with_reducible refine aw_regionA T_ok ?_ ?_); (focus kernel_rfl)) | ((with_reducible refine aw_drawnA T_ok ?_ ?_ ?_ ?_); (focus kernel_rfl); (focus kernel_rfl); (focus (decide +kernel))) | ((with_reducible refine aw_drawnF T_ok ?_ ?_ ?_ ?_); (focus kernel_rfl); (focus kernel_rfl); (focus (decide +kernel))) | ((with_reducible refine callK_intro (h1) (by with_unfolding_all rfl) ?_ ?_); (focus kernel_rfl)) | ((with_reducible refine callI_spec (h1) (by with_unfolding_all rfl) ?_ ?_ ?_); (focus kernel_rfl); (focus kernel_rfl)) | ((with_reducible refine callK_intro (h2) (by with_unfolding_all rfl) ?_ ?_); (focus kernel_rfl)) | ((with_reducible refine callI_spec (h2) (by with_unfolding_all rfl) ?_ ?_ ?_); (focus kernel_rfl); (focus kernel_rfl)) | ((with_reducible refine callK_intro (h3) (by with_unfolding_all rfl) ?_ ?_); (focus kernel_rfl)) | ((with_reducible refine callI_spec (h3) (by with_unfolding_all rfl) ?_ ?_ ?_); (focus kernel_rfl); (focus kernel_rfl)) | ((with_reducible refine callK_intro (h4) (by with_unfolding_all rfl) ?_ ?_); (focus kernel_rfl)) | ((with_reducible refine callI_spec (h4) (by with_unfolding_all rfl) ?_ ?_ ?_); (focus kernel_rfl); (focus kernel_rfl)) | (with_reducible refine aw_label ?_) | ((with_reducible refine aw_rfM ?_ ?_); (focus kernel_rfl)) | (with_reducible refine aw_skip ?_) | (with_reducible refine aw_exit ?_) | ((with_reducible refine aw_condM ?_ ?_); (focus kernel_rfl)) | (with_reducible refine aw_ret ?_)); simp only [↓avP, avQ, if_true, if_false, forall_const, beq_self_eq_true, eq_self, ne_eq, implies_true, reduceIte, Nat.reduceEqDiff, Nat.reduceAdd, Nat.reduceSub, Int.reduceToNat, Nat.reduceLeDiff, Nat.reduceLT, reduceCtorEq, Int.reduceEq, retQ, retL, resV, RetV, RetOk, SubL, intD_B, lotD_B, flowD_B, snocI, snocL, ty_3, ty_26, ty_4, ty_24, ty_50, ty_22, ty_25, issD_get, fl_ex, hb2]; try simp (disch := omega) only [av_w, av_t1, av_tp, Int.toNat_natCast]))
    all_goals first | exact Sub.refl _ | trace_state
  cases b4
  · subst hR
    repeat' (first | (with_reducible refine aw_seq ?_) | ((with_reducible refine twoG_intro ?_ ?_) <;> intro hTw <;> first | (exact Bool.noConfusion hTw) | ((try simp only [hTw, avT]); (first | (guard_hyp hTw : true = true; clear hTw) | (guard_hyp hTw : false = false; clear hTw) | (revert hTw; intro _)))) | ((with_reducible refine two_intro ?_ ?_) <;> intro hTw <;> first | (exact Bool.noConfusion hTw) | ((first | (guard_hyp hTw : true = true; clear hTw) | (guard_hyp hTw : false = false; clear hTw) | (revert hTw; intro _)))) | ((with_reducible refine And.intro ?_ ?_); (focus (first | omega | rfl | decide | grind))) | (with_reducible refine aw_block ?_) | (with_reducible refine aw_scope ?_) | ((first | ((with_reducible refine aw_regionA T_ok ?_ ?_); (focus kernel_rfl)) | ((with_reducible refine aw_drawnA T_ok ?_ ?_ ?_ ?_); (focus kernel_rfl); (focus kernel_rfl); (focus (decide +kernel))) | ((with_reducible refine aw_drawnF T_ok ?_ ?_ ?_ ?_); (focus kernel_rfl); (focus kernel_rfl); (focus (decide +kernel))) | ((with_reducible refine callK_intro (h1) (by with_unfolding_all rfl) ?_ ?_); (focus kernel_rfl)) | ((with_reducible refine callI_spec (h1) (by with_unfolding_all rfl) ?_ ?_ ?_); (focus kernel_rfl); (focus kernel_rfl)) | ((with_reducible refine callK_intro (h2) (by with_unfolding_all rfl) ?_ ?_); (focus kernel_rfl)) | ((with_reducible refine callI_spec (h2) (by with_unfolding_all rfl) ?_ ?_ ?_); (focus kernel_rfl); (focus kernel_rfl)) | ((with_reducible refine callK_intro (h3) (by with_unfolding_all rfl) ?_ ?_); (focus kernel_rfl)) | ((with_reducible refine callI_spec (h3) (by with_unfolding_all rfl) ?_ ?_ ?_); (focus kernel_rfl); (focus kernel_rfl)) | ((with_reducible refine callK_intro (h4) (by with_unfolding_all rfl) ?_ ?_); (focus kernel_rfl)) | ((with_reducible refine callI_spec (h4) (by with_unfolding_all rfl) ?_ ?_ ?_); (focus kernel_rfl); (focus kernel_rfl)) | (with_reducible refine aw_label ?_) | ((with_reducible refine aw_rfM ?_ ?_); (focus kernel_rfl)) | (with_reducible refine aw_skip ?_) | (with_reducible refine aw_exit ?_) | ((with_reducible refine aw_condM ?_ ?_); (focus kernel_rfl)) | (with_reducible refine aw_ret ?_)); simp only [↓avP, avQ, if_true, if_false, forall_const, beq_self_eq_true, eq_self, ne_eq, implies_true, reduceIte, Nat.reduceEqDiff, Nat.reduceAdd, Nat.reduceSub, Int.reduceToNat, Nat.reduceLeDiff, Nat.reduceLT, reduceCtorEq, Int.reduceEq, retQ, retL, resV, RetV, RetOk, SubL, intD_B, lotD_B, flowD_B, snocI, snocL, ty_3, ty_26, ty_4, ty_24, ty_50, ty_22, ty_25, issD_get, fl_ex, hb2]; try simp (disch := omega) only [av_w, av_t1, av_tp, Int.toNat_natCast]))
    all_goals first | exact Sub.refl _ | trace_state
  subst hR
  repeat' (first | (with_reducible refine aw_seq ?_) | ((with_reducible refine twoG_intro ?_ ?_) <;> intro hTw <;> first | (exact Bool.noConfusion hTw) | ((try simp only [hTw, avT]); (first | (guard_hyp hTw : true = true; clear hTw) | (guard_hyp hTw : false = false; clear hTw) | (revert hTw; intro _)))) | ((with_reducible refine two_intro ?_ ?_) <;> intro hTw <;> first | (exact Bool.noConfusion hTw) | ((first | (guard_hyp hTw : true = true; clear hTw) | (guard_hyp hTw : false = false; clear hTw) | (revert hTw; intro _)))) | ((with_reducible refine And.intro ?_ ?_); (focus (first | omega | rfl | decide | grind))) | (with_reducible refine aw_block ?_) | (with_reducible refine aw_scope ?_) | ((first | ((with_reducible refine aw_regionA T_ok ?_ ?_); (focus kernel_rfl)) | ((with_reducible refine aw_drawnA T_ok ?_ ?_ ?_ ?_); (focus kernel_rfl); (focus kernel_rfl); (focus (decide +kernel))) | ((with_reducible refine aw_drawnF T_ok ?_ ?_ ?_ ?_); (focus kernel_rfl); (focus kernel_rfl); (focus (decide +kernel))) | ((with_reducible refine callK_intro (h1) (by with_unfolding_all rfl) ?_ ?_); (focus kernel_rfl)) | ((with_reducible refine callI_spec (h1) (by with_unfolding_all rfl) ?_ ?_ ?_); (focus kernel_rfl); (focus kernel_rfl)) | ((with_reducible refine callK_intro (h2) (by with_unfolding_all rfl) ?_ ?_); (focus kernel_rfl)) | ((with_reducible refine callI_spec (h2) (by with_unfolding_all rfl) ?_ ?_ ?_); (focus kernel_rfl); (focus kernel_rfl)) | ((with_reducible refine callK_intro (h3) (by with_unfolding_all rfl) ?_ ?_); (focus kernel_rfl)) | ((with_reducible refine callI_spec (h3) (by with_unfolding_all rfl) ?_ ?_ ?_); (focus kernel_rfl); (focus kernel_rfl)) | ((with_reducible refine callK_intro (h4) (by with_unfolding_all rfl) ?_ ?_); (focus kernel_rfl)) | ((with_reducible refine callI_spec (h4) (by with_unfolding_all rfl) ?_ ?_ ?_); (focus kernel_rfl); (focus kernel_rfl)) | (with_reducible refine aw_label ?_) | ((with_reducible refine aw_rfM ?_ ?_); (focus kernel_rfl)) | (with_reducible refine aw_skip ?_) | (with_reducible refine aw_exit ?_) | ((with_reducible refine aw_condM ?_ ?_); (focus kernel_rfl)) | (with_reducible refine aw_ret ?_)); simp only [↓avP, avQ, if_true, if_false, forall_const, beq_self_eq_true, eq_self, ne_eq, implies_true, reduceIte, Nat.reduceEqDiff, Nat.reduceAdd, Nat.reduceSub, Int.reduceToNat, Nat.reduceLeDiff, Nat.reduceLT, reduceCtorEq, Int.reduceEq, retQ, retL, resV, RetV, RetOk, SubL, intD_B, lotD_B, flowD_B, snocI, snocL, ty_3, ty_26, ty_4, ty_24, ty_50, ty_22, ty_25, issD_get, fl_ex, hb2]; try simp (disch := omega) only [av_w, av_t1, av_tp, Int.toNat_natCast]))
  all_goals first | exact Sub.refl _ | exact Sub.of_eq (congrArg aB (by simp [and_assoc])) | trace_state
end Go.Proofs.Ytlnkmaejiceloaa


namespace Go.Proofs.Ytlnkmaejiceloaa
set_option linter.unusedSimpArgs false
set_option linter.unusedVariables false
open Go.RowKit
set_option maxRecDepth 100000
set_option maxHeartbeats 8000000
theorem isCo.okI {n : Nat} {x : List Int} (h : isCo n x) (hn : n ≤ 1000000) : x.length ≤ 140737488351232 ∧ ∀ z ∈ x, -9223372036854775808 ≤ z ∧ z ≤ 9223372036854775807 :=
  ⟨by have := h.len; omega, fun z hz => by have := h.2 z hz; omega⟩
end Go.Proofs.Ytlnkmaejiceloaa


namespace Go.Proofs.Ytlnkmaejiceloaa
set_option linter.unusedSimpArgs false
set_option linter.unusedVariables false
open Go.RowKit
theorem chL_mem {off : Nat} : ∀ (k : Nat) (c r : List Int), isCo off (c ++ r) → r.length = k → c ++ r ∈ chL off k c
  | 0, c, r, h, hr => by
    rw [List.length_eq_zero_iff.1 hr, List.append_nil, chL]; simp
  | k + 1, c, [], h, hr => by cases hr
  | k + 1, c, i :: r, h, hr => by
    rw [List.length_cons] at hr
    have hi := h.2 i (by simp)
    have hp := List.pairwise_append.1 h.1
    have hn : nextC c ≤ i.toNat := by
      rcases List.eq_nil_or_concat c with rfl | ⟨m, z, rfl⟩
      · simp [nextC]
      · rw [List.concat_eq_append] at *
        have hz := h.2 z (by simp)
        have hn : nextC (m ++ [z]) = z.toNat + 1 := by
          unfold nextC
          rw [if_neg (by simp)]
          simp [List.getD]
        have := hp.2.2 z (by simp) i (by simp)
        rw [hn]; omega
    have e : c ++ i :: r = (c ++ [((i.toNat : Nat) : Int)]) ++ r := by
      rw [List.append_assoc, show ((i.toNat : Nat) : Int) = i by omega]; rfl
    rw [e] at h ⊢
    rw [chL, List.mem_flatMap]
    exact ⟨i.toNat, List.mem_range'_1.2 ⟨hn, by omega⟩, chL_mem k _ r h (by omega)⟩
theorem chL_pre {off : Nat} : ∀ (k : Nat) (c x : List Int), x ∈ chL off k c → ∃ r, x = c ++ r
  | 0, c, x, h => by rw [chL, List.mem_singleton] at h; exact ⟨[], by simp [h]⟩
  | k + 1, c, x, h => by
    rw [chL, List.mem_flatMap] at h
    obtain ⟨i, _, h⟩ := h
    obtain ⟨r, hr⟩ := chL_pre k _ x h
    exact ⟨(i : Int) :: r, by rw [hr, List.append_assoc]; rfl⟩
theorem mem_allL {off : Nat} {x : List Int} : x ∈ allL off (off + 1) ↔ isCo off x := by
  constructor
  · exact fun h => (allL_co h).1
  · intro h
    unfold allL
    rw [List.mem_flatMap]
    have := h.len
    exact ⟨x.length, List.mem_range.2 (by omega), by have := chL_mem x.length [] x h rfl; exact this⟩
/-- the order -/
theorem ltL_app (c : List Int) {i j : Int} (h : i < j) (a b : List Int) : ltL (c ++ i :: a) (c ++ j :: b) = true := by
  induction c with
  | nil =>
    rw [List.nil_append, List.nil_append, ltL, if_neg (by omega)]
    exact decide_eq_true h
  | cons z c ih => rw [List.cons_append, List.cons_append, ltL, if_pos rfl]; exact ih
theorem chL_sorted {off : Nat} : ∀ (k : Nat) (c : List Int), isCo off c → (chL off k c).Pairwise fun a b => lessC a b = true
  | 0, c, _ => by rw [chL]; exact List.pairwise_singleton _ _
  | k + 1, c, h => by
    rw [chL, List.pairwise_flatMap]
    refine ⟨fun i hi => ?_, ?_⟩
    · rw [List.mem_range'_1] at hi
      exact chL_sorted k _ (h.snoc hi.1 (by omega))
    · refine List.Pairwise.imp_of_mem ?_ (List.pairwise_lt_range' (s := nextC c) (n := off - nextC c))
      intro i j hi hj hij x hx y hy
      rw [List.mem_range'_1] at hi hj
      have lx := (chL_co k _ (h.snoc hi.1 (by omega)) x hx).2
      have ly := (chL_co k _ (h.snoc hj.1 (by omega)) y hy).2
      obtain ⟨r1, rfl⟩ := chL_pre k _ x hx
      obtain ⟨r2, rfl⟩ := chL_pre k _ y hy
      have hl : (c ++ [(i : Int)] ++ r1).length = (c ++ [(j : Int)] ++ r2).length := by
        rw [lx, ly, List.length_append, List.length_append]; rfl
      rw [lessC, if_pos hl, List.append_assoc, List.append_assoc]
      exact ltL_app c (by omega) r1 r2
theorem allL_sorted {off n : Nat} : (allL off n).Pairwise fun a b => lessC a b = true := by
  unfold allL
  rw [List.pairwise_flatMap]
  refine ⟨fun k _ => chL_sorted k [] (isCo.nil off), ?_⟩
  refine List.Pairwise.imp ?_ (List.pairwise_lt_range (n := n))
  intro i j hij x hx y hy
  have lx := (chL_co i [] (isCo.nil off) x hx).2
  have ly := (chL_co j [] (isCo.nil off) y hy).2
  rw [List.length_nil] at lx ly
  rw [lessC, if_neg (by omega)]
  exact decide_eq_true (by omega)
theorem lessC_len {a b : List Int} (h : lessC a b = true) : a.length ≤ b.length := by
  unfold lessC at h
  split at h
  · omega
  · have := of_decide_eq_true h; omega
theorem ltL_irr : ∀ a : List Int, ltL a a = false
  | [] => rfl
  | x :: a => by rw [ltL, if_pos rfl]; exact ltL_irr a
theorem lessC_irr (a : List Int) : lessC a a = false := by rw [lessC, if_pos rfl]; exact ltL_irr a
/-- strictly increasing lists, one within the other, of the same length -/
theorem inc_eq : ∀ {a b : List Int}, a.Pairwise (· < ·) → b.Pairwise (· < ·) → (∀ z ∈ a, z ∈ b) → b.length ≤ a.length → a = b
  | [], b, _, _, _, hl => by
    rw [List.length_nil] at hl
    exact (List.length_eq_zero_iff.1 (by omega)).symm
  | x :: a, [], _, _, h, _ => by have := h x (by simp); cases this
  | x :: a, y :: b, ha, hb, h, hl => by
    obtain ⟨a1, a2⟩ := List.pairwise_cons.1 ha
    obtain ⟨b1, b2⟩ := List.pairwise_cons.1 hb
    have hxy : x = y := by
      rcases List.mem_cons.1 (h x (by simp)) with e | e
      · exact e
      · -- then all of x :: a lie in b, which is shorter
        have h2 : ∀ z ∈ x :: a, z ∈ b := fun z hz => by
          rcases List.mem_cons.1 (h z hz) with e2 | e2
          · have h3 := b1 x e
            rcases List.mem_cons.1 hz with e4 | e4
            · omega
            · have := a1 z e4; omega
          · exact e2
        have := nd_len (List.Pairwise.imp (fun {a b} h => by omega) ha) h2
        simp only [List.length_cons] at this hl
        omega
    subst hxy
    congr 1
    refine inc_eq a2 b2 (fun z hz => ?_) (by simpa using hl)
    rcases List.mem_cons.1 (h z (by simp [hz])) with e | e
    · have := a1 z hz; omega
    · exact e
/-- what is kept of a list in order -/
structure KeepOk (off : Nat) (bk : List Int → Bool) (p L : List (List Int)) : Prop where
  sub : L.Sublist p
  brk : ∀ x ∈ L, bk x = true
  min : ∀ x ∈ L, ∀ y ∈ p, bk y = true → (∀ z ∈ y, z ∈ x) → y = x
  cov : ∀ x ∈ p, bk x = true → ∃ y ∈ L, ∀ z ∈ y, z ∈ x
theorem coverB_iff {L : List (List Int)} {x : List Int} : coverB L x = true ↔ ∃ y ∈ L, ∀ z ∈ y, z ∈ x := by
  unfold coverB
  simp only [List.any_eq_true, List.all_eq_true, decide_eq_true_eq]
theorem keep_step {off : Nat} {brk : List Int → Bool} {p L : List (List Int)} {x : List Int} (h : KeepOk off brk p L) (hp : ∀ y ∈ p, isCo off y ∧ lessC y x = true) (hx : isCo off x) : KeepOk off brk (p ++ [x]) (stepL brk L x) := by
  have key : ∀ w ∈ L, (∀ z ∈ x, z ∈ w) → x = w := fun w hw hz => by
    have hwp := hp w (h.sub.subset hw)
    exact inc_eq hx.1 hwp.1.1 hz (lessC_len hwp.2)
  unfold stepL
  cases hc : coverB L x with
  | true =>
    rw [if_neg (by simp)]
    obtain ⟨y, hy, hyx⟩ := coverB_iff.1 hc
    refine ⟨h.sub.trans (List.sublist_append_left _ _), h.brk, fun w hw y hy hb hs => ?_, fun w hw hb => ?_⟩
    · rcases List.mem_append.1 hy with hy | hy
      · exact h.min w hw y hy hb hs
      · rw [List.mem_singleton.1 hy] at hs ⊢
        exact key w hw hs
    · rcases List.mem_append.1 hw with hw | hw
      · exact h.cov w hw hb
      · rw [List.mem_singleton.1 hw]; exact ⟨y, hy, hyx⟩
  | false =>
    cases hb : brk x with
    | false =>
      rw [if_neg (by simp)]
      refine ⟨h.sub.trans (List.sublist_append_left _ _), h.brk, fun w hw y hy hb' hs => ?_, fun w hw hb' => ?_⟩
      · rcases List.mem_append.1 hy with hy | hy
        · exact h.min w hw y hy hb' hs
        · rw [List.mem_singleton.1 hy, hb] at hb'; cases hb'
      · rcases List.mem_append.1 hw with hw | hw
        · exact h.cov w hw hb'
        · rw [List.mem_singleton.1 hw, hb] at hb'; cases hb'
    | true =>
      rw [if_pos (by simp)]
      refine ⟨h.sub.append (List.Sublist.refl _), fun w hw => ?_, fun w hw y hy hb' hs => ?_, fun w hw hb' => ?_⟩
      · rcases List.mem_append.1 hw with hw | hw
        · exact h.brk w hw
        · rw [List.mem_singleton.1 hw]; exact hb
      · rcases List.mem_append.1 hw with hw | hw
        · rcases List.mem_append.1 hy with hy | hy
          · exact h.min w hw y hy hb' hs
          · rw [List.mem_singleton.1 hy] at hs ⊢
            exact key w hw hs
        · rw [List.mem_singleton.1 hw] at hs ⊢
          rcases List.mem_append.1 hy with hy | hy
          · obtain ⟨v, hv, hvy⟩ := h.cov y hy hb'
            have : coverB L x = true := coverB_iff.2 ⟨v, hv, fun z hz => hs z (hvy z hz)⟩
            rw [hc] at this; cases this
          · exact List.mem_singleton.1 hy
      · rcases List.mem_append.1 hw with hw | hw
        · obtain ⟨v, hv, h2⟩ := h.cov w hw hb'
          exact ⟨v, by simp [hv], h2⟩
        · rw [List.mem_singleton.1 hw]; exact ⟨x, by simp, fun z hz => hz⟩
theorem keep_ok {off : Nat} {brk : List Int → Bool} : ∀ (xs p L : List (List Int)), KeepOk off brk p L → (∀ y ∈ p ++ xs, isCo off y) → (p ++ xs).Pairwise (fun a b => lessC a b = true) → KeepOk off brk (p ++ xs) (keepL brk L xs)
  | [], p, L, h, _, _ => by rw [List.append_nil]; exact h
  | x :: xs, p, L, h, hc, hs => by
    have hs2 := List.pairwise_append.1 hs
    have h1 := keep_step h (fun y hy => ⟨hc y (by simp [hy]), hs2.2.2 y hy x (by simp)⟩) (hc x (by simp))
    have e : p ++ x :: xs = (p ++ [x]) ++ xs := by simp
    rw [e] at hc hs ⊢
    exact keep_ok xs (p ++ [x]) (stepL brk L x) h1 hc hs
theorem least_keep {f : FlowP} {lines : List (List Int)} {o s need : Int} (h : errL f lines o s = 0) : KeepOk o.toNat (fun x => brkB f lines x s need) (allL o.toNat (o.toNat + 1)) (leastR f lines o s need) := by
  rw [leastR, if_pos h]
  have := keep_ok (off := o.toNat) (brk := fun x => brkB f lines x s need) (allL o.toNat (o.toNat + 1)) [] [] ⟨List.Sublist.refl _, fun x hx => (by cases hx), fun x hx => (by cases hx), fun x hx => (by cases hx)⟩ (fun y hy => mem_allL.1 (by simpa using hy)) (by rw [List.nil_append]; exact allL_sorted)
  rw [List.nil_append] at this
  exact this
theorem least_sorted {f : FlowP} {lines : List (List Int)} {o s need : Int} (h : errL f lines o s = 0) : (leastR f lines o s need).Pairwise fun a b => lessC a b = true :=
  allL_sorted.sublist (least_keep (need := need) h).sub
end Go.Proofs.Ytlnkmaejiceloaa


namespace Go.Proofs.Ytlnkmaejiceloaa
set_option linter.unusedSimpArgs false
set_option linter.unusedVariables false
open Go.RowKit
set_option maxRecDepth 100000
set_option maxHeartbeats 8000000
end Go.Proofs.Ytlnkmaejiceloaa

