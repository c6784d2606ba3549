import Derived.Test.YtncihbmehbiekaaRB8
import Derived.Test.YtncihbmehbiekaaRB6
import Derived.Test.YtncihbmehbiekaaRB9
namespace Go.Proofs.Ytncihbmehbiekaa
set_option linter.unusedSimpArgs false
set_option linter.unusedVariables false
open Go.RowKit
set_option maxRecDepth 100000
set_option maxHeartbeats 4000000
theorem fknown1_spec (x : LotP) : Spec Try.prog 65 [aLot x] (.r1 (aB (!x.known))) := by
  refine spec_of T_ok Try.func65 (by dsimp only [Try.f65]) rfl rfl (by simp) fun w F => ?_
  repeat' (first
    | (with_reducible refine aw_seq ?_)
    | ((with_reducible refine twoG_intro ?_ ?_) <;> intro hTw <;> first | (exact Bool.noConfusion hTw) | ((try simp only [hTw, Bool.not_true, Bool.not_false, Bool.true_and, Bool.false_and, Bool.and_true, Bool.and_false, Bool.true_or, Bool.false_or, Bool.or_true, Bool.or_false]); (first | (guard_hyp hTw : true = true; clear hTw) | (guard_hyp hTw : false = false; clear hTw) | (revert hTw; intro _))))
    | ((with_reducible refine two_intro ?_ ?_) <;> intro hTw <;> first | (exact Bool.noConfusion hTw) | ((first | (guard_hyp hTw : true = true; clear hTw) | (guard_hyp hTw : false = false; clear hTw) | (revert hTw; intro _))))
    | ((with_reducible refine And.intro ?_ ?_); (focus (first | omega | rfl | decide | grind)))
    | (with_reducible refine aw_block ?_)
    | (with_reducible refine aw_scope ?_)
    | ((first
        | ((with_reducible refine aw_regionA T_ok ?_ ?_); (focus kernel_rfl))
        | ((with_reducible refine aw_drawnA T_ok ?_ ?_ ?_ ?_); (focus kernel_rfl); (focus kernel_rfl); (focus (decide +kernel)))
        | ((with_reducible refine aw_drawnF T_ok ?_ ?_ ?_ ?_); (focus kernel_rfl); (focus kernel_rfl); (focus (decide +kernel)))
        | (with_reducible refine aw_label ?_)
        | ((with_reducible refine aw_rfM ?_ ?_); (focus kernel_rfl))
        | (with_reducible refine aw_skip ?_)
        | (with_reducible refine aw_exit ?_)
        | ((with_reducible refine aw_condM ?_ ?_); (focus kernel_rfl))
        | (with_reducible refine aw_ret ?_)
      ); simp only [↓avP, avQ, if_true, if_false, forall_const, beq_self_eq_true, eq_self, ne_eq, implies_true, reduceIte, Nat.reduceEqDiff, Nat.reduceAdd, Nat.reduceSub, Int.reduceToNat, Nat.reduceLeDiff, Nat.reduceLT, reduceCtorEq, Int.reduceEq, retQ, retL, resV, RetV, RetOk, SubL, intD_B, lotD_B, flowD_B, snocI, snocL, ty_3, ty_27, ty_4, ty_24, ty_40, ty_22, ty_31, ty_68, ty_50, issD_get]; try simp (disch := omega) only [av_w, av_t1, av_tp, Int.toNat_natCast]))
  all_goals exact Sub.refl _
theorem fknown_spec (f : FlowP) (hl : f.lots.length ≤ 140737488351232) : Spec Try.prog 41 [.agg (flowD f)] (.r1 (aB (knownF f))) := by
  refine spec_of T_ok Try.func41 (by dsimp only [Try.f41]) rfl rfl (by simp) fun w F => ?_
  have hk : ∀ asA r, FnM aLot (fun x => !x.known) f.lots asA r → Spec Try.prog 65 asA r := by
    rintro asA r ⟨x, _, rfl, rfl⟩
    exact fknown1_spec x
  have hC := lots_contains f.lots (fun x => !x.known) hl
  have he : knownF f = !(f.lots.any fun x => !x.known) := by
    rw [← any_getD f.lots default, knownF, Bool.eq_iff_iff, List.all_eq_true, Bool.not_eq_true', List.any_eq_false]
    constructor
    · intro h i hi
      have := h i hi
      simpa using this
    · intro h i hi
      have := h i hi
      simpa using this
  rw [he]
  repeat' (first
    | (with_reducible refine aw_seq ?_)
    | ((with_reducible refine twoG_intro ?_ ?_) <;> intro hTw <;> first | (exact Bool.noConfusion hTw) | ((try simp only [hTw, Bool.not_true, Bool.not_false, Bool.true_and, Bool.false_and, Bool.and_true, Bool.and_false, Bool.true_or, Bool.false_or, Bool.or_true, Bool.or_false]); (first | (guard_hyp hTw : true = true; clear hTw) | (guard_hyp hTw : false = false; clear hTw) | (revert hTw; intro _))))
    | ((with_reducible refine two_intro ?_ ?_) <;> intro hTw <;> first | (exact Bool.noConfusion hTw) | ((first | (guard_hyp hTw : true = true; clear hTw) | (guard_hyp hTw : false = false; clear hTw) | (revert hTw; intro _))))
    | ((with_reducible refine And.intro ?_ ?_); (focus (first | omega | rfl | decide | grind)))
    | (with_reducible refine aw_block ?_)
    | (with_reducible refine aw_scope ?_)
    | ((first
        | ((with_reducible refine aw_regionA T_ok ?_ ?_); (focus kernel_rfl))
        | ((with_reducible refine aw_drawnA T_ok ?_ ?_ ?_ ?_); (focus kernel_rfl); (focus kernel_rfl); (focus (decide +kernel)))
        | ((with_reducible refine aw_drawnF T_ok ?_ ?_ ?_ ?_); (focus kernel_rfl); (focus kernel_rfl); (focus (decide +kernel)))
        | ((with_reducible refine callK_fz (hC) rfl ?_ ?_ ?_); (focus (repeat' (first | (exact FzA.nil) | (exact FzL.nil) | (exact FzLL.nil) | (exact FzLL_dV _) | (exact Fz.d rfl) | (refine FzA.one ?_ ?_) | (refine FzA.agg ?_ ?_) | (refine FzL.cons ?_ ?_) | (refine FzLL.cons ?_ ?_) | (exact hk) | (refine Fz.fn ?_ (by kernel_rfl) (hk)) | (refine Fz.fm ?_ (by kernel_rfl) (hk)) | (refine Fz.fc (by kernel_rfl) (hk)) | (refine Fz.pt rfl ?_) | (refine Fz.mp rfl ?_ ?_ ?_) | (refine Fz.row rfl ?_) | (refine Fz.ag ?_))); done); (focus kernel_rfl))
        | ((with_reducible refine callI_fz (hC) rfl ?_ ?_ ?_ ?_); (focus (repeat' (first | (exact FzA.nil) | (exact FzL.nil) | (exact FzLL.nil) | (exact FzLL_dV _) | (exact Fz.d rfl) | (refine FzA.one ?_ ?_) | (refine FzA.agg ?_ ?_) | (refine FzL.cons ?_ ?_) | (refine FzLL.cons ?_ ?_) | (exact hk) | (refine Fz.fn ?_ (by kernel_rfl) (hk)) | (refine Fz.fm ?_ (by kernel_rfl) (hk)) | (refine Fz.fc (by kernel_rfl) (hk)) | (refine Fz.pt rfl ?_) | (refine Fz.mp rfl ?_ ?_ ?_) | (refine Fz.row rfl ?_) | (refine Fz.ag ?_))); done); (focus kernel_rfl); (focus kernel_rfl))
        | (with_reducible refine aw_label ?_)
        | ((with_reducible refine aw_rfM ?_ ?_); (focus kernel_rfl))
        | (with_reducible refine aw_skip ?_)
        | (with_reducible refine aw_exit ?_)
        | ((with_reducible refine aw_condM ?_ ?_); (focus kernel_rfl))
        | (with_reducible refine aw_ret ?_)
      ); simp only [↓avP, avQ, if_true, if_false, forall_const, beq_self_eq_true, eq_self, ne_eq, implies_true, reduceIte, Nat.reduceEqDiff, Nat.reduceAdd, Nat.reduceSub, Int.reduceToNat, Nat.reduceLeDiff, Nat.reduceLT, reduceCtorEq, Int.reduceEq, retQ, retL, resV, RetV, RetOk, SubL, intD_B, lotD_B, flowD_B, snocI, snocL, ty_3, ty_27, ty_4, ty_24, ty_40, ty_22, ty_31, ty_68, ty_50, issD_get]; try simp (disch := omega) only [av_w, av_t1, av_tp, Int.toNat_natCast]))
  exact Sub.refl _
theorem fview1_spec (n : Int) : Spec Try.prog 45 [aI n] (.r1 (aB (officeB n))) := by
  refine spec_of T_ok Try.func45 (by dsimp only [Try.f45]) rfl rfl (by simp) fun w F => ?_
  repeat' (first
    | (with_reducible refine aw_seq ?_)
    | ((with_reducible refine twoG_intro ?_ ?_) <;> intro hTw <;> first | (exact Bool.noConfusion hTw) | ((try simp only [hTw, Bool.not_true, Bool.not_false, Bool.true_and, Bool.false_and, Bool.and_true, Bool.and_false, Bool.true_or, Bool.false_or, Bool.or_true, Bool.or_false]); (first | (guard_hyp hTw : true = true; clear hTw) | (guard_hyp hTw : false = false; clear hTw) | (revert hTw; intro _))))
    | ((with_reducible refine two_intro ?_ ?_) <;> intro hTw <;> first | (exact Bool.noConfusion hTw) | ((first | (guard_hyp hTw : true = true; clear hTw) | (guard_hyp hTw : false = false; clear hTw) | (revert hTw; intro _))))
    | ((with_reducible refine And.intro ?_ ?_); (focus (first | omega | rfl | decide | grind)))
    | (with_reducible refine aw_block ?_)
    | (with_reducible refine aw_scope ?_)
    | ((first
        | ((with_reducible refine aw_regionA T_ok ?_ ?_); (focus kernel_rfl))
        | ((with_reducible refine aw_drawnA T_ok ?_ ?_ ?_ ?_); (focus kernel_rfl); (focus kernel_rfl); (focus (decide +kernel)))
        | ((with_reducible refine aw_drawnF T_ok ?_ ?_ ?_ ?_); (focus kernel_rfl); (focus kernel_rfl); (focus (decide +kernel)))
        | (with_reducible refine aw_label ?_)
        | ((with_reducible refine aw_rfM ?_ ?_); (focus kernel_rfl))
        | (with_reducible refine aw_skip ?_)
        | (with_reducible refine aw_exit ?_)
        | ((with_reducible refine aw_condM ?_ ?_); (focus kernel_rfl))
        | (with_reducible refine aw_ret ?_)
      ); simp only [↓avP, avQ, if_true, if_false, forall_const, beq_self_eq_true, eq_self, ne_eq, implies_true, reduceIte, Nat.reduceEqDiff, Nat.reduceAdd, Nat.reduceSub, Int.reduceToNat, Nat.reduceLeDiff, Nat.reduceLT, reduceCtorEq, Int.reduceEq, retQ, retL, resV, RetV, RetOk, SubL, intD_B, lotD_B, flowD_B, snocI, snocL, ty_3, ty_27, ty_4, ty_24, ty_40, ty_22, ty_31, ty_68, ty_50, issD_get]; try simp (disch := omega) only [av_w, av_t1, av_tp, Int.toNat_natCast]))
  all_goals exact Sub.of_eq (congrArg aB (by simp [officeB]))
theorem office_fn : ∀ asA r, FnD aI officeB asA r → Spec Try.prog 45 asA r := by
  rintro asA r ⟨n, rfl, rfl⟩
  exact fview1_spec n
theorem fview2_spec (l : List Int) (hl : l.length ≤ 140737488351232) (hb : ∀ x ∈ l, -9223372036854775808 ≤ x ∧ x ≤ 9223372036854775807) : Spec Try.prog 46 [aIs l, .one (.pt [.c (.func (.func 45) #[] #[])])] (.r1 (aB (!lineB l))) := by
  refine spec_of T_ok Try.func46 (by dsimp only [Try.f46]) rfl rfl (by simp) fun w F => ?_
  have hD := different_spec l officeB hl hb
  by_cases h1 : l.length = 0
  · have hd1 : ((l.length : Int) == 0) = true := by rw [h1]; rfl
    repeat' (first
      | (with_reducible refine aw_seq ?_)
      | ((with_reducible refine twoG_intro ?_ ?_) <;> intro hTw <;> first | (exact Bool.noConfusion hTw) | ((try simp only [hTw, Bool.not_true, Bool.not_false, Bool.true_and, Bool.false_and, Bool.and_true, Bool.and_false, Bool.true_or, Bool.false_or, Bool.or_true, Bool.or_false]); (first | (guard_hyp hTw : true = true; clear hTw) | (guard_hyp hTw : false = false; clear hTw) | (revert hTw; intro _))))
      | ((with_reducible refine two_intro ?_ ?_) <;> intro hTw <;> first | (exact Bool.noConfusion hTw) | ((first | (guard_hyp hTw : true = true; clear hTw) | (guard_hyp hTw : false = false; clear hTw) | (revert hTw; intro _))))
      | ((with_reducible refine And.intro ?_ ?_); (focus (first | omega | rfl | decide | grind)))
      | (with_reducible refine aw_block ?_)
      | (with_reducible refine aw_scope ?_)
      | ((first
          | ((with_reducible refine aw_regionA T_ok ?_ ?_); (focus kernel_rfl))
          | ((with_reducible refine aw_drawnA T_ok ?_ ?_ ?_ ?_); (focus kernel_rfl); (focus kernel_rfl); (focus (decide +kernel)))
          | ((with_reducible refine aw_drawnF T_ok ?_ ?_ ?_ ?_); (focus kernel_rfl); (focus kernel_rfl); (focus (decide +kernel)))
          | ((with_reducible refine callK_skip (.r1 (aB false)) (by with_unfolding_all rfl) ?_ ?_); (focus kernel_rfl))
          | ((with_reducible refine callK_fz (hD) rfl ?_ ?_ ?_); (focus (repeat' (first | (exact FzA.nil) | (exact FzL.nil) | (exact FzLL.nil) | (exact FzLL_dV _) | (exact Fz.d rfl) | (refine FzA.one ?_ ?_) | (refine FzA.agg ?_ ?_) | (refine FzL.cons ?_ ?_) | (refine FzLL.cons ?_ ?_) | (exact office_fn) | (refine Fz.fn ?_ (by kernel_rfl) (office_fn)) | (refine Fz.fm ?_ (by kernel_rfl) (office_fn)) | (refine Fz.fc (by kernel_rfl) (office_fn)) | (refine Fz.pt rfl ?_) | (refine Fz.mp rfl ?_ ?_ ?_) | (refine Fz.row rfl ?_) | (refine Fz.ag ?_))); done); (focus kernel_rfl))
          | ((with_reducible refine callI_fz (hD) rfl ?_ ?_ ?_ ?_); (focus (repeat' (first | (exact FzA.nil) | (exact FzL.nil) | (exact FzLL.nil) | (exact FzLL_dV _) | (exact Fz.d rfl) | (refine FzA.one ?_ ?_) | (refine FzA.agg ?_ ?_) | (refine FzL.cons ?_ ?_) | (refine FzLL.cons ?_ ?_) | (exact office_fn) | (refine Fz.fn ?_ (by kernel_rfl) (office_fn)) | (refine Fz.fm ?_ (by kernel_rfl) (office_fn)) | (refine Fz.fc (by kernel_rfl) (office_fn)) | (refine Fz.pt rfl ?_) | (refine Fz.mp rfl ?_ ?_ ?_) | (refine Fz.row rfl ?_) | (refine Fz.ag ?_))); done); (focus kernel_rfl); (focus kernel_rfl))
          | (with_reducible refine aw_label ?_)
          | ((with_reducible refine aw_rfM ?_ ?_); (focus kernel_rfl))
          | (with_reducible refine aw_skip ?_)
          | (with_reducible refine aw_exit ?_)
          | ((with_reducible refine aw_condM ?_ ?_); (focus kernel_rfl))
          | (with_reducible refine aw_ret ?_)
        ); simp only [↓avP, avQ, if_true, if_false, forall_const, beq_self_eq_true, eq_self, ne_eq, implies_true, reduceIte, Nat.reduceEqDiff, Nat.reduceAdd, Nat.reduceSub, Int.reduceToNat, Nat.reduceLeDiff, Nat.reduceLT, reduceCtorEq, Int.reduceEq, retQ, retL, resV, RetV, RetOk, SubL, intD_B, lotD_B, flowD_B, snocI, snocL, ty_3, ty_27, ty_4, ty_24, ty_40, ty_22, ty_31, ty_68, ty_50, issD_get, hd1]; try simp (disch := omega) only [av_w, av_t1, av_tp, Int.toNat_natCast]))
    exact Sub.of_eq (congrArg aB (by rw [lineB, decide_eq_false (by omega)]; rfl))
  · have hd1 : ((l.length : Int) == 0) = false := by simp; exact fun e => h1 (by rw [e]; rfl)
    repeat' (first
      | (with_reducible refine aw_seq ?_)
      | ((with_reducible refine twoG_intro ?_ ?_) <;> intro hTw <;> first | (exact Bool.noConfusion hTw) | ((try simp only [hTw, Bool.not_true, Bool.not_false, Bool.true_and, Bool.false_and, Bool.and_true, Bool.and_false, Bool.true_or, Bool.false_or, Bool.or_true, Bool.or_false]); (first | (guard_hyp hTw : true = true; clear hTw) | (guard_hyp hTw : false = false; clear hTw) | (revert hTw; intro _))))
      | ((with_reducible refine two_intro ?_ ?_) <;> intro hTw <;> first | (exact Bool.noConfusion hTw) | ((first | (guard_hyp hTw : true = true; clear hTw) | (guard_hyp hTw : false = false; clear hTw) | (revert hTw; intro _))))
      | ((with_reducible refine And.intro ?_ ?_); (focus (first | omega | rfl | decide | grind)))
      | (with_reducible refine aw_block ?_)
      | (with_reducible refine aw_scope ?_)
      | ((first
          | ((with_reducible refine aw_regionA T_ok ?_ ?_); (focus kernel_rfl))
          | ((with_reducible refine aw_drawnA T_ok ?_ ?_ ?_ ?_); (focus kernel_rfl); (focus kernel_rfl); (focus (decide +kernel)))
          | ((with_reducible refine aw_drawnF T_ok ?_ ?_ ?_ ?_); (focus kernel_rfl); (focus kernel_rfl); (focus (decide +kernel)))
          | ((with_reducible refine callK_fz (hD) rfl ?_ ?_ ?_); (focus (repeat' (first | (exact FzA.nil) | (exact FzL.nil) | (exact FzLL.nil) | (exact FzLL_dV _) | (exact Fz.d rfl) | (refine FzA.one ?_ ?_) | (refine FzA.agg ?_ ?_) | (refine FzL.cons ?_ ?_) | (refine FzLL.cons ?_ ?_) | (exact office_fn) | (refine Fz.fn ?_ (by kernel_rfl) (office_fn)) | (refine Fz.fm ?_ (by kernel_rfl) (office_fn)) | (refine Fz.fc (by kernel_rfl) (office_fn)) | (refine Fz.pt rfl ?_) | (refine Fz.mp rfl ?_ ?_ ?_) | (refine Fz.row rfl ?_) | (refine Fz.ag ?_))); done); (focus kernel_rfl))
          | ((with_reducible refine callI_fz (hD) rfl ?_ ?_ ?_ ?_); (focus (repeat' (first | (exact FzA.nil) | (exact FzL.nil) | (exact FzLL.nil) | (exact FzLL_dV _) | (exact Fz.d rfl) | (refine FzA.one ?_ ?_) | (refine FzA.agg ?_ ?_) | (refine FzL.cons ?_ ?_) | (refine FzLL.cons ?_ ?_) | (exact office_fn) | (refine Fz.fn ?_ (by kernel_rfl) (office_fn)) | (refine Fz.fm ?_ (by kernel_rfl) (office_fn)) | (refine Fz.fc (by kernel_rfl) (office_fn)) | (refine Fz.pt rfl ?_) | (refine Fz.mp rfl ?_ ?_ ?_) | (refine Fz.row rfl ?_) | (refine Fz.ag ?_))); done); (focus kernel_rfl); (focus kernel_rfl))
          | (with_reducible refine aw_label ?_)
          | ((with_reducible refine aw_rfM ?_ ?_); (focus kernel_rfl))
          | (with_reducible refine aw_skip ?_)
          | (with_reducible refine aw_exit ?_)
          | ((with_reducible refine aw_condM ?_ ?_); (focus kernel_rfl))
          | (with_reducible refine aw_ret ?_)
        ); simp only [↓avP, avQ, if_true, if_false, forall_const, beq_self_eq_true, eq_self, ne_eq, implies_true, reduceIte, Nat.reduceEqDiff, Nat.reduceAdd, Nat.reduceSub, Int.reduceToNat, Nat.reduceLeDiff, Nat.reduceLT, reduceCtorEq, Int.reduceEq, retQ, retL, resV, RetV, RetOk, SubL, intD_B, lotD_B, flowD_B, snocI, snocL, ty_3, ty_27, ty_4, ty_24, ty_40, ty_22, ty_31, ty_68, ty_50, issD_get, hd1]; try simp (disch := omega) only [av_w, av_t1, av_tp, Int.toNat_natCast]))
    exact Sub.of_eq (congrArg aB (by rw [lineB, decide_eq_true h1, Bool.true_and]))
theorem fview3_spec (coal : List Int) (n : Int) (hl : coal.length ≤ 140737488351232) : Spec Try.prog 50 [aI n, .one (.pt [.sl 1 (intD 0) (coal.map intD)])] (.r1 (aB (!decide (n ∈ coal)))) := by
  refine spec_of T_ok Try.func50 (by dsimp only [Try.f50]) rfl rfl (by simp) fun w F => ?_
  repeat' (first
    | (with_reducible refine aw_seq ?_)
    | ((with_reducible refine twoG_intro ?_ ?_) <;> intro hTw <;> first | (exact Bool.noConfusion hTw) | ((try simp only [hTw, Bool.not_true, Bool.not_false, Bool.true_and, Bool.false_and, Bool.and_true, Bool.and_false, Bool.true_or, Bool.false_or, Bool.or_true, Bool.or_false]); (first | (guard_hyp hTw : true = true; clear hTw) | (guard_hyp hTw : false = false; clear hTw) | (revert hTw; intro _))))
    | ((with_reducible refine two_intro ?_ ?_) <;> intro hTw <;> first | (exact Bool.noConfusion hTw) | ((first | (guard_hyp hTw : true = true; clear hTw) | (guard_hyp hTw : false = false; clear hTw) | (revert hTw; intro _))))
    | ((with_reducible refine And.intro ?_ ?_); (focus (first | omega | rfl | decide | grind)))
    | (with_reducible refine aw_block ?_)
    | (with_reducible refine aw_scope ?_)
    | ((first
        | ((with_reducible refine aw_regionA T_ok ?_ ?_); (focus kernel_rfl))
        | ((with_reducible refine aw_drawnA T_ok ?_ ?_ ?_ ?_); (focus kernel_rfl); (focus kernel_rfl); (focus (decide +kernel)))
        | ((with_reducible refine aw_drawnF T_ok ?_ ?_ ?_ ?_); (focus kernel_rfl); (focus kernel_rfl); (focus (decide +kernel)))
        | ((with_reducible refine callK_intro (contains_spec coal n hl) (by with_unfolding_all rfl) ?_ ?_); (focus kernel_rfl))
        | ((with_reducible refine callI_spec (contains_spec coal n hl) (by with_unfolding_all rfl) ?_ ?_ ?_); (focus kernel_rfl); (focus kernel_rfl))
        | (with_reducible refine aw_label ?_)
        | ((with_reducible refine aw_rfM ?_ ?_); (focus kernel_rfl))
        | (with_reducible refine aw_skip ?_)
        | (with_reducible refine aw_exit ?_)
        | ((with_reducible refine aw_condM ?_ ?_); (focus kernel_rfl))
        | (with_reducible refine aw_ret ?_)
      ); simp only [↓avP, avQ, if_true, if_false, forall_const, beq_self_eq_true, eq_self, ne_eq, implies_true, reduceIte, Nat.reduceEqDiff, Nat.reduceAdd, Nat.reduceSub, Int.reduceToNat, Nat.reduceLeDiff, Nat.reduceLT, reduceCtorEq, Int.reduceEq, retQ, retL, resV, RetV, RetOk, SubL, intD_B, lotD_B, flowD_B, snocI, snocL, ty_3, ty_27, ty_4, ty_24, ty_40, ty_22, ty_31, ty_68, ty_50, issD_get]; try simp (disch := omega) only [av_w, av_t1, av_tp, Int.toNat_natCast]))
  exact Sub.refl _
theorem strict_lt {l : List Int} (h : ∀ k, k < l.length → k ≠ 0 → l.getD (k - 1) 0 < l.getD k 0) : ∀ j i, i < j → j < l.length → l.getD i 0 < l.getD j 0
  | 0, i, h1, _ => by omega
  | j + 1, i, h1, h2 => by
    have := h (j + 1) h2 (by omega)
    rw [Nat.add_sub_cancel] at this
    rcases Nat.lt_succ_iff_lt_or_eq.1 h1 with h3 | rfl
    · have := strict_lt h j i h3 (by omega); omega
    · exact this
theorem coal_eq (l : List Int) : coalB l = (diffB officeB l && sortedB l) := by
  rw [Bool.eq_iff_iff]
  unfold coalB diffB sortedB
  rw [← range_all l officeB]
  simp only [Bool.and_eq_true, decide_eq_true_eq, List.all_eq_true, List.mem_range, Bool.not_eq_true', Bool.or_eq_false_iff, Bool.not_eq_false', Bool.and_eq_false_iff, decide_eq_false_iff_not]
  constructor
  · intro h
    have hs : ∀ k, k < l.length → k ≠ 0 → l.getD (k - 1) 0 < l.getD k 0 := fun k hk h0 => by
      have := (h k hk).2; omega
    refine ⟨⟨?_, fun k hk => (h k hk).1⟩, fun k hk => ?_⟩
    · rw [List.nodup_iff_pairwise_ne, List.pairwise_iff_getElem]
      intro i j hi hj hij e
      have := strict_lt hs j i hij hj
      simp [List.getD, hi, hj] at this
      omega
    · by_cases h0 : k = 0
      · exact .inl (by omega)
      · have := hs k hk h0; exact .inr (by omega)
  · rintro ⟨⟨h1, h2⟩, h3⟩ k hk
    refine ⟨h2 k hk, ?_⟩
    by_cases h0 : k = 0
    · exact .inl (by omega)
    · right
      have h4 := h3 k hk
      rw [List.nodup_iff_pairwise_ne, List.pairwise_iff_getElem] at h1
      have h5 := h1 (k - 1) k (by omega) hk (by omega)
      have e1 : l.getD k 0 = l[k] := by simp [List.getD, hk]
      have e2 : l.getD (k - 1) 0 = l[k - 1] := by simp [List.getD, show k - 1 < l.length by omega]
      rw [e1, e2] at h4 ⊢
      omega
theorem fview_spec (f : FlowP) (lines : List (List Int)) (coal : List Int) (hf : OkF f) (hl : lines.length ≤ 140737488351232) (hx : ∀ x ∈ lines, x.length ≤ 140737488351232 ∧ ∀ n ∈ x, -9223372036854775808 ≤ n ∧ n ≤ 9223372036854775807) (hcl : coal.length ≤ 140737488351232) (hcb : ∀ n ∈ coal, -9223372036854775808 ≤ n ∧ n ≤ 9223372036854775807) :
    Spec Try.prog 29 [.agg (flowD f), aIss lines, aIs coal] (.rt [.agg (flowD (viewR f lines coal)), aI (errV f lines coal)]) := by
  refine spec_of T_ok Try.func29 (by dsimp only [Try.f29]) rfl rfl (by simp) fun w F => ?_
  have hC := fcheck_spec f hf
  have hK := fknown_spec f hf.l
  have hfl := hf.l
  by_cases hc : checkF f = 0
  rotate_left
  · have hd : (checkF f != 0) = true := by simpa using hc
    repeat' (first
      | (with_reducible refine aw_seq ?_)
      | ((with_reducible refine twoG_intro ?_ ?_) <;> intro hTw <;> first | (exact Bool.noConfusion hTw) | ((try simp only [hTw, Bool.not_true, Bool.not_false, Bool.true_and, Bool.false_and, Bool.and_true, Bool.and_false, Bool.true_or, Bool.false_or, Bool.or_true, Bool.or_false]); (first | (guard_hyp hTw : true = true; clear hTw) | (guard_hyp hTw : false = false; clear hTw) | (revert hTw; intro _))))
      | ((with_reducible refine two_intro ?_ ?_) <;> intro hTw <;> first | (exact Bool.noConfusion hTw) | ((first | (guard_hyp hTw : true = true; clear hTw) | (guard_hyp hTw : false = false; clear hTw) | (revert hTw; intro _))))
      | ((with_reducible refine And.intro ?_ ?_); (focus (first | omega | rfl | decide | grind)))
      | (with_reducible refine aw_block ?_)
      | (with_reducible refine aw_scope ?_)
      | ((first
          | ((with_reducible refine aw_regionA T_ok ?_ ?_); (focus kernel_rfl))
          | ((with_reducible refine aw_drawnA T_ok ?_ ?_ ?_ ?_); (focus kernel_rfl); (focus kernel_rfl); (focus (decide +kernel)))
          | ((with_reducible refine aw_drawnF T_ok ?_ ?_ ?_ ?_); (focus kernel_rfl); (focus kernel_rfl); (focus (decide +kernel)))
          | ((with_reducible refine callK_intro (hC) (by with_unfolding_all rfl) ?_ ?_); (focus kernel_rfl))
          | ((with_reducible refine callI_spec (hC) (by with_unfolding_all rfl) ?_ ?_ ?_); (focus kernel_rfl); (focus kernel_rfl))
          | (with_reducible refine aw_label ?_)
          | ((with_reducible refine aw_rfM ?_ ?_); (focus kernel_rfl))
          | (with_reducible refine aw_skip ?_)
          | (with_reducible refine aw_exit ?_)
          | ((with_reducible refine aw_condM ?_ ?_); (focus kernel_rfl))
          | (with_reducible refine aw_ret ?_)
        ); simp only [↓avP, avQ, if_true, if_false, forall_const, beq_self_eq_true, eq_self, ne_eq, implies_true, reduceIte, Nat.reduceEqDiff, Nat.reduceAdd, Nat.reduceSub, Int.reduceToNat, Nat.reduceLeDiff, Nat.reduceLT, reduceCtorEq, Int.reduceEq, retQ, retL, resV, RetV, RetOk, SubL, intD_B, lotD_B, flowD_B, snocI, snocL, ty_3, ty_27, ty_4, ty_24, ty_40, ty_22, ty_31, ty_68, ty_50, issD_get, hd]; try simp (disch := omega) only [av_w, av_t1, av_tp, Int.toNat_natCast]))
    have he : errV f lines coal = checkF f := by rw [errV, if_pos hc]
    rw [viewR, he, if_neg hc]
    exact ⟨Sub.aggs ⟨rfl, rfl, trivial⟩, Sub.refl _⟩
  rw [hc] at hC
  have hln : ∀ asA r, FnM aIs (fun l => !lineB l) lines asA r → Spec Try.prog 46 (asA ++ [.one (.pt [.c (.func (.func 45) #[] #[])])]) r := by
    rintro asA r ⟨l, hm, rfl, rfl⟩
    exact fview2_spec l (hx l hm).1 (hx l hm).2
  have hL := intss_contains lines (fun l => !lineB l) hl
  have hD := different_spec coal officeB hcl hcb
  have hS := isSorted_spec coal hcl
  have hst : ∀ k, ∀ asA r, FnM aI (fun n => !decide (n ∈ coal)) (lines.getD k []) asA r → Spec Try.prog 50 (asA ++ [.one (.pt [.sl 1 (intD 0) (coal.map intD)])]) r := by
    rintro k asA r ⟨n, hm, rfl, rfl⟩
    exact fview3_spec coal n hcl
  have hcq := coal_eq coal
  have hla : linesB lines f.lots.length = (!(lines.any fun l => !lineB l) && decide (lines.length = f.lots.length)) := by
    unfold linesB
    congr 1
    rw [Bool.eq_iff_iff, List.all_eq_true, Bool.not_eq_true', List.any_eq_false]
    constructor
    · intro h x hx; rw [h x hx]; simp
    · intro h x hx; have := h x hx; simpa using this
  have hbad : (knownF f && linesB lines f.lots.length && coalB coal) = false → errV f lines coal = 1 := fun h => by
    rw [errV, if_neg (by simpa using hc), if_neg (by rw [h]; simp)]
  have hfin : ∀ E : Int, errV f lines coal = 1 → E = 1 → Sub (.agg [.c (.int .i64 0), .c (.slice none 0 0)]) (.agg (flowD (viewR f lines coal))) ∧ Sub (.one (.c (.int .i64 E))) (aI (errV f lines coal)) := fun E he hE => by
    subst hE
    rw [viewR, he, if_neg (by decide)]
    exact ⟨Sub.aggs ⟨rfl, rfl, trivial⟩, Sub.refl _⟩
  cases hk : knownF f with
  | false =>
    repeat' (first
      | (with_reducible refine aw_seq ?_)
      | ((with_reducible refine twoG_intro ?_ ?_) <;> intro hTw <;> first | (exact Bool.noConfusion hTw) | ((try simp only [hTw, Bool.not_true, Bool.not_false, Bool.true_and, Bool.false_and, Bool.and_true, Bool.and_false, Bool.true_or, Bool.false_or, Bool.or_true, Bool.or_false]); (first | (guard_hyp hTw : true = true; clear hTw) | (guard_hyp hTw : false = false; clear hTw) | (revert hTw; intro _))))
      | ((with_reducible refine two_intro ?_ ?_) <;> intro hTw <;> first | (exact Bool.noConfusion hTw) | ((first | (guard_hyp hTw : true = true; clear hTw) | (guard_hyp hTw : false = false; clear hTw) | (revert hTw; intro _))))
      | ((with_reducible refine And.intro ?_ ?_); (focus (first | omega | rfl | decide | grind)))
      | (with_reducible refine aw_block ?_)
      | (with_reducible refine aw_scope ?_)
      | ((first
          | ((with_reducible refine aw_regionA T_ok ?_ ?_); (focus kernel_rfl))
          | ((with_reducible refine aw_drawnA T_ok ?_ ?_ ?_ ?_); (focus kernel_rfl); (focus kernel_rfl); (focus (decide +kernel)))
          | ((with_reducible refine aw_drawnF T_ok ?_ ?_ ?_ ?_); (focus kernel_rfl); (focus kernel_rfl); (focus (decide +kernel)))
          | ((with_reducible refine callK_intro (hC) (by with_unfolding_all rfl) ?_ ?_); (focus kernel_rfl))
          | ((with_reducible refine callI_spec (hC) (by with_unfolding_all rfl) ?_ ?_ ?_); (focus kernel_rfl); (focus kernel_rfl))
          | ((with_reducible refine callK_intro (hK) (by with_unfolding_all rfl) ?_ ?_); (focus kernel_rfl))
          | ((with_reducible refine callI_spec (hK) (by with_unfolding_all rfl) ?_ ?_ ?_); (focus kernel_rfl); (focus kernel_rfl))
          | ((with_reducible refine callK_fz (hL) rfl ?_ ?_ ?_); (focus (repeat' (first | (exact FzA.nil) | (exact FzL.nil) | (exact FzLL.nil) | (exact FzLL_dV _) | (exact Fz.d rfl) | (refine FzA.one ?_ ?_) | (refine FzA.agg ?_ ?_) | (refine FzL.cons ?_ ?_) | (refine FzLL.cons ?_ ?_) | (exact hln) | (refine Fz.fn ?_ (by kernel_rfl) (hln)) | (refine Fz.fm ?_ (by kernel_rfl) (hln)) | (refine Fz.fc (by kernel_rfl) (hln)) | (refine Fz.pt rfl ?_) | (refine Fz.mp rfl ?_ ?_ ?_) | (refine Fz.row rfl ?_) | (refine Fz.ag ?_))); done); (focus kernel_rfl))
          | ((with_reducible refine callI_fz (hL) rfl ?_ ?_ ?_ ?_); (focus (repeat' (first | (exact FzA.nil) | (exact FzL.nil) | (exact FzLL.nil) | (exact FzLL_dV _) | (exact Fz.d rfl) | (refine FzA.one ?_ ?_) | (refine FzA.agg ?_ ?_) | (refine FzL.cons ?_ ?_) | (refine FzLL.cons ?_ ?_) | (exact hln) | (refine Fz.fn ?_ (by kernel_rfl) (hln)) | (refine Fz.fm ?_ (by kernel_rfl) (hln)) | (refine Fz.fc (by kernel_rfl) (hln)) | (refine Fz.pt rfl ?_) | (refine Fz.mp rfl ?_ ?_ ?_) | (refine Fz.row rfl ?_) | (refine Fz.ag ?_))); done); (focus kernel_rfl); (focus kernel_rfl))
          | ((with_reducible refine callK_fz (hD) rfl ?_ ?_ ?_); (focus (repeat' (first | (exact FzA.nil) | (exact FzL.nil) | (exact FzLL.nil) | (exact FzLL_dV _) | (exact Fz.d rfl) | (refine FzA.one ?_ ?_) | (refine FzA.agg ?_ ?_) | (refine FzL.cons ?_ ?_) | (refine FzLL.cons ?_ ?_) | (exact office_fn) | (refine Fz.fn ?_ (by kernel_rfl) (office_fn)) | (refine Fz.fm ?_ (by kernel_rfl) (office_fn)) | (refine Fz.fc (by kernel_rfl) (office_fn)) | (refine Fz.pt rfl ?_) | (refine Fz.mp rfl ?_ ?_ ?_) | (refine Fz.row rfl ?_) | (refine Fz.ag ?_))); done); (focus kernel_rfl))
          | ((with_reducible refine callI_fz (hD) rfl ?_ ?_ ?_ ?_); (focus (repeat' (first | (exact FzA.nil) | (exact FzL.nil) | (exact FzLL.nil) | (exact FzLL_dV _) | (exact Fz.d rfl) | (refine FzA.one ?_ ?_) | (refine FzA.agg ?_ ?_) | (refine FzL.cons ?_ ?_) | (refine FzLL.cons ?_ ?_) | (exact office_fn) | (refine Fz.fn ?_ (by kernel_rfl) (office_fn)) | (refine Fz.fm ?_ (by kernel_rfl) (office_fn)) | (refine Fz.fc (by kernel_rfl) (office_fn)) | (refine Fz.pt rfl ?_) | (refine Fz.mp rfl ?_ ?_ ?_) | (refine Fz.row rfl ?_) | (refine Fz.ag ?_))); done); (focus kernel_rfl); (focus kernel_rfl))
          | ((with_reducible refine callK_skip (.r1 (aB false)) (by with_unfolding_all rfl) ?_ ?_); (focus kernel_rfl))
          | (with_reducible refine aw_label ?_)
          | ((with_reducible refine aw_rfM ?_ ?_); (focus kernel_rfl))
          | (with_reducible refine aw_skip ?_)
          | (with_reducible refine aw_exit ?_)
          | ((with_reducible refine aw_condM ?_ ?_); (focus kernel_rfl))
          | (with_reducible refine aw_ret ?_)
        ); simp only [↓avP, avQ, if_true, if_false, forall_const, beq_self_eq_true, eq_self, ne_eq, implies_true, reduceIte, Nat.reduceEqDiff, Nat.reduceAdd, Nat.reduceSub, Int.reduceToNat, Nat.reduceLeDiff, Nat.reduceLT, reduceCtorEq, Int.reduceEq, retQ, retL, resV, RetV, RetOk, SubL, intD_B, lotD_B, flowD_B, snocI, snocL, ty_3, ty_27, ty_4, ty_24, ty_40, ty_22, ty_31, ty_68, ty_50, issD_get, hk]; try simp (disch := omega) only [av_w, av_t1, av_tp, Int.toNat_natCast]))
    first | exact hfin 1 (hbad (by rw [hk]; rfl)) rfl | exact (hfin 1 (hbad (by rw [hk]; rfl)) rfl).2
  | true =>
    by_cases hll : lines.length = f.lots.length
    rotate_left
    · have g1 : ((lines.length : Int) != (f.lots.length : Int)) = true := by simp; omega
      repeat' (first
        | (with_reducible refine aw_seq ?_)
        | ((with_reducible refine twoG_intro ?_ ?_) <;> intro hTw <;> first | (exact Bool.noConfusion hTw) | ((try simp only [hTw, Bool.not_true, Bool.not_false, Bool.true_and, Bool.false_and, Bool.and_true, Bool.and_false, Bool.true_or, Bool.false_or, Bool.or_true, Bool.or_false]); (first | (guard_hyp hTw : true = true; clear hTw) | (guard_hyp hTw : false = false; clear hTw) | (revert hTw; intro _))))
        | ((with_reducible refine two_intro ?_ ?_) <;> intro hTw <;> first | (exact Bool.noConfusion hTw) | ((first | (guard_hyp hTw : true = true; clear hTw) | (guard_hyp hTw : false = false; clear hTw) | (revert hTw; intro _))))
        | ((with_reducible refine And.intro ?_ ?_); (focus (first | omega | rfl | decide | grind)))
        | (with_reducible refine aw_block ?_)
        | (with_reducible refine aw_scope ?_)
        | ((first
            | ((with_reducible refine aw_regionA T_ok ?_ ?_); (focus kernel_rfl))
            | ((with_reducible refine aw_drawnA T_ok ?_ ?_ ?_ ?_); (focus kernel_rfl); (focus kernel_rfl); (focus (decide +kernel)))
            | ((with_reducible refine aw_drawnF T_ok ?_ ?_ ?_ ?_); (focus kernel_rfl); (focus kernel_rfl); (focus (decide +kernel)))
            | ((with_reducible refine callK_intro (hC) (by with_unfolding_all rfl) ?_ ?_); (focus kernel_rfl))
            | ((with_reducible refine callI_spec (hC) (by with_unfolding_all rfl) ?_ ?_ ?_); (focus kernel_rfl); (focus kernel_rfl))
            | ((with_reducible refine callK_intro (hK) (by with_unfolding_all rfl) ?_ ?_); (focus kernel_rfl))
            | ((with_reducible refine callI_spec (hK) (by with_unfolding_all rfl) ?_ ?_ ?_); (focus kernel_rfl); (focus kernel_rfl))
            | ((with_reducible refine callK_fz (hL) rfl ?_ ?_ ?_); (focus (repeat' (first | (exact FzA.nil) | (exact FzL.nil) | (exact FzLL.nil) | (exact FzLL_dV _) | (exact Fz.d rfl) | (refine FzA.one ?_ ?_) | (refine FzA.agg ?_ ?_) | (refine FzL.cons ?_ ?_) | (refine FzLL.cons ?_ ?_) | (exact hln) | (refine Fz.fn ?_ (by kernel_rfl) (hln)) | (refine Fz.fm ?_ (by kernel_rfl) (hln)) | (refine Fz.fc (by kernel_rfl) (hln)) | (refine Fz.pt rfl ?_) | (refine Fz.mp rfl ?_ ?_ ?_) | (refine Fz.row rfl ?_) | (refine Fz.ag ?_))); done); (focus kernel_rfl))
            | ((with_reducible refine callI_fz (hL) rfl ?_ ?_ ?_ ?_); (focus (repeat' (first | (exact FzA.nil) | (exact FzL.nil) | (exact FzLL.nil) | (exact FzLL_dV _) | (exact Fz.d rfl) | (refine FzA.one ?_ ?_) | (refine FzA.agg ?_ ?_) | (refine FzL.cons ?_ ?_) | (refine FzLL.cons ?_ ?_) | (exact hln) | (refine Fz.fn ?_ (by kernel_rfl) (hln)) | (refine Fz.fm ?_ (by kernel_rfl) (hln)) | (refine Fz.fc (by kernel_rfl) (hln)) | (refine Fz.pt rfl ?_) | (refine Fz.mp rfl ?_ ?_ ?_) | (refine Fz.row rfl ?_) | (refine Fz.ag ?_))); done); (focus kernel_rfl); (focus kernel_rfl))
            | ((with_reducible refine callK_fz (hD) rfl ?_ ?_ ?_); (focus (repeat' (first | (exact FzA.nil) | (exact FzL.nil) | (exact FzLL.nil) | (exact FzLL_dV _) | (exact Fz.d rfl) | (refine FzA.one ?_ ?_) | (refine FzA.agg ?_ ?_) | (refine FzL.cons ?_ ?_) | (refine FzLL.cons ?_ ?_) | (exact office_fn) | (refine Fz.fn ?_ (by kernel_rfl) (office_fn)) | (refine Fz.fm ?_ (by kernel_rfl) (office_fn)) | (refine Fz.fc (by kernel_rfl) (office_fn)) | (refine Fz.pt rfl ?_) | (refine Fz.mp rfl ?_ ?_ ?_) | (refine Fz.row rfl ?_) | (refine Fz.ag ?_))); done); (focus kernel_rfl))
            | ((with_reducible refine callI_fz (hD) rfl ?_ ?_ ?_ ?_); (focus (repeat' (first | (exact FzA.nil) | (exact FzL.nil) | (exact FzLL.nil) | (exact FzLL_dV _) | (exact Fz.d rfl) | (refine FzA.one ?_ ?_) | (refine FzA.agg ?_ ?_) | (refine FzL.cons ?_ ?_) | (refine FzLL.cons ?_ ?_) | (exact office_fn) | (refine Fz.fn ?_ (by kernel_rfl) (office_fn)) | (refine Fz.fm ?_ (by kernel_rfl) (office_fn)) | (refine Fz.fc (by kernel_rfl) (office_fn)) | (refine Fz.pt rfl ?_) | (refine Fz.mp rfl ?_ ?_ ?_) | (refine Fz.row rfl ?_) | (refine Fz.ag ?_))); done); (focus kernel_rfl); (focus kernel_rfl))
            | ((with_reducible refine callK_skip (.r1 (aB false)) (by with_unfolding_all rfl) ?_ ?_); (focus kernel_rfl))
            | (with_reducible refine aw_label ?_)
            | ((with_reducible refine aw_rfM ?_ ?_); (focus kernel_rfl))
            | (with_reducible refine aw_skip ?_)
            | (with_reducible refine aw_exit ?_)
            | ((with_reducible refine aw_condM ?_ ?_); (focus kernel_rfl))
            | (with_reducible refine aw_ret ?_)
          ); simp only [↓avP, avQ, if_true, if_false, forall_const, beq_self_eq_true, eq_self, ne_eq, implies_true, reduceIte, Nat.reduceEqDiff, Nat.reduceAdd, Nat.reduceSub, Int.reduceToNat, Nat.reduceLeDiff, Nat.reduceLT, reduceCtorEq, Int.reduceEq, retQ, retL, resV, RetV, RetOk, SubL, intD_B, lotD_B, flowD_B, snocI, snocL, ty_3, ty_27, ty_4, ty_24, ty_40, ty_22, ty_31, ty_68, ty_50, issD_get, hk, g1]; try simp (disch := omega) only [av_w, av_t1, av_tp, Int.toNat_natCast]))
      first | exact hfin 1 (hbad (by rw [hla, decide_eq_false hll]; simp)) rfl | exact (hfin 1 (hbad (by rw [hla, decide_eq_false hll]; simp)) rfl).2
    have g1 : ((lines.length : Int) != (f.lots.length : Int)) = false := by simp; omega
    cases hany : lines.any fun l => !lineB l with
    | true =>
      repeat' (first
        | (with_reducible refine aw_seq ?_)
        | ((with_reducible refine twoG_intro ?_ ?_) <;> intro hTw <;> first | (exact Bool.noConfusion hTw) | ((try simp only [hTw, Bool.not_true, Bool.not_false, Bool.true_and, Bool.false_and, Bool.and_true, Bool.and_false, Bool.true_or, Bool.false_or, Bool.or_true, Bool.or_false]); (first | (guard_hyp hTw : true = true; clear hTw) | (guard_hyp hTw : false = false; clear hTw) | (revert hTw; intro _))))
        | ((with_reducible refine two_intro ?_ ?_) <;> intro hTw <;> first | (exact Bool.noConfusion hTw) | ((first | (guard_hyp hTw : true = true; clear hTw) | (guard_hyp hTw : false = false; clear hTw) | (revert hTw; intro _))))
        | ((with_reducible refine And.intro ?_ ?_); (focus (first | omega | rfl | decide | grind)))
        | (with_reducible refine aw_block ?_)
        | (with_reducible refine aw_scope ?_)
        | ((first
            | ((with_reducible refine aw_regionA T_ok ?_ ?_); (focus kernel_rfl))
            | ((with_reducible refine aw_drawnA T_ok ?_ ?_ ?_ ?_); (focus kernel_rfl); (focus kernel_rfl); (focus (decide +kernel)))
            | ((with_reducible refine aw_drawnF T_ok ?_ ?_ ?_ ?_); (focus kernel_rfl); (focus kernel_rfl); (focus (decide +kernel)))
            | ((with_reducible refine callK_intro (hC) (by with_unfolding_all rfl) ?_ ?_); (focus kernel_rfl))
            | ((with_reducible refine callI_spec (hC) (by with_unfolding_all rfl) ?_ ?_ ?_); (focus kernel_rfl); (focus kernel_rfl))
            | ((with_reducible refine callK_intro (hK) (by with_unfolding_all rfl) ?_ ?_); (focus kernel_rfl))
            | ((with_reducible refine callI_spec (hK) (by with_unfolding_all rfl) ?_ ?_ ?_); (focus kernel_rfl); (focus kernel_rfl))
            | ((with_reducible refine callK_fz (hL) rfl ?_ ?_ ?_); (focus (repeat' (first | (exact FzA.nil) | (exact FzL.nil) | (exact FzLL.nil) | (exact FzLL_dV _) | (exact Fz.d rfl) | (refine FzA.one ?_ ?_) | (refine FzA.agg ?_ ?_) | (refine FzL.cons ?_ ?_) | (refine FzLL.cons ?_ ?_) | (exact hln) | (refine Fz.fn ?_ (by kernel_rfl) (hln)) | (refine Fz.fm ?_ (by kernel_rfl) (hln)) | (refine Fz.fc (by kernel_rfl) (hln)) | (refine Fz.pt rfl ?_) | (refine Fz.mp rfl ?_ ?_ ?_) | (refine Fz.row rfl ?_) | (refine Fz.ag ?_))); done); (focus kernel_rfl))
            | ((with_reducible refine callI_fz (hL) rfl ?_ ?_ ?_ ?_); (focus (repeat' (first | (exact FzA.nil) | (exact FzL.nil) | (exact FzLL.nil) | (exact FzLL_dV _) | (exact Fz.d rfl) | (refine FzA.one ?_ ?_) | (refine FzA.agg ?_ ?_) | (refine FzL.cons ?_ ?_) | (refine FzLL.cons ?_ ?_) | (exact hln) | (refine Fz.fn ?_ (by kernel_rfl) (hln)) | (refine Fz.fm ?_ (by kernel_rfl) (hln)) | (refine Fz.fc (by kernel_rfl) (hln)) | (refine Fz.pt rfl ?_) | (refine Fz.mp rfl ?_ ?_ ?_) | (refine Fz.row rfl ?_) | (refine Fz.ag ?_))); done); (focus kernel_rfl); (focus kernel_rfl))
            | ((with_reducible refine callK_fz (hD) rfl ?_ ?_ ?_); (focus (repeat' (first | (exact FzA.nil) | (exact FzL.nil) | (exact FzLL.nil) | (exact FzLL_dV _) | (exact Fz.d rfl) | (refine FzA.one ?_ ?_) | (refine FzA.agg ?_ ?_) | (refine FzL.cons ?_ ?_) | (refine FzLL.cons ?_ ?_) | (exact office_fn) | (refine Fz.fn ?_ (by kernel_rfl) (office_fn)) | (refine Fz.fm ?_ (by kernel_rfl) (office_fn)) | (refine Fz.fc (by kernel_rfl) (office_fn)) | (refine Fz.pt rfl ?_) | (refine Fz.mp rfl ?_ ?_ ?_) | (refine Fz.row rfl ?_) | (refine Fz.ag ?_))); done); (focus kernel_rfl))
            | ((with_reducible refine callI_fz (hD) rfl ?_ ?_ ?_ ?_); (focus (repeat' (first | (exact FzA.nil) | (exact FzL.nil) | (exact FzLL.nil) | (exact FzLL_dV _) | (exact Fz.d rfl) | (refine FzA.one ?_ ?_) | (refine FzA.agg ?_ ?_) | (refine FzL.cons ?_ ?_) | (refine FzLL.cons ?_ ?_) | (exact office_fn) | (refine Fz.fn ?_ (by kernel_rfl) (office_fn)) | (refine Fz.fm ?_ (by kernel_rfl) (office_fn)) | (refine Fz.fc (by kernel_rfl) (office_fn)) | (refine Fz.pt rfl ?_) | (refine Fz.mp rfl ?_ ?_ ?_) | (refine Fz.row rfl ?_) | (refine Fz.ag ?_))); done); (focus kernel_rfl); (focus kernel_rfl))
            | ((with_reducible refine callK_skip (.r1 (aB false)) (by with_unfolding_all rfl) ?_ ?_); (focus kernel_rfl))
            | (with_reducible refine aw_label ?_)
            | ((with_reducible refine aw_rfM ?_ ?_); (focus kernel_rfl))
            | (with_reducible refine aw_skip ?_)
            | (with_reducible refine aw_exit ?_)
            | ((with_reducible refine aw_condM ?_ ?_); (focus kernel_rfl))
            | (with_reducible refine aw_ret ?_)
          ); simp only [↓avP, avQ, if_true, if_false, forall_const, beq_self_eq_true, eq_self, ne_eq, implies_true, reduceIte, Nat.reduceEqDiff, Nat.reduceAdd, Nat.reduceSub, Int.reduceToNat, Nat.reduceLeDiff, Nat.reduceLT, reduceCtorEq, Int.reduceEq, retQ, retL, resV, RetV, RetOk, SubL, intD_B, lotD_B, flowD_B, snocI, snocL, ty_3, ty_27, ty_4, ty_24, ty_40, ty_22, ty_31, ty_68, ty_50, issD_get, hk, g1, hany]; try simp (disch := omega) only [av_w, av_t1, av_tp, Int.toNat_natCast]))
      first | exact hfin 1 (hbad (by rw [hla, hany]; simp)) rfl | exact (hfin 1 (hbad (by rw [hla, hany]; simp)) rfl).2
    | false =>
      cases hdd : diffB officeB coal with
      | false =>
        repeat' (first
          | (with_reducible refine aw_seq ?_)
          | ((with_reducible refine twoG_intro ?_ ?_) <;> intro hTw <;> first | (exact Bool.noConfusion hTw) | ((try simp only [hTw, Bool.not_true, Bool.not_false, Bool.true_and, Bool.false_and, Bool.and_true, Bool.and_false, Bool.true_or, Bool.false_or, Bool.or_true, Bool.or_false]); (first | (guard_hyp hTw : true = true; clear hTw) | (guard_hyp hTw : false = false; clear hTw) | (revert hTw; intro _))))
          | ((with_reducible refine two_intro ?_ ?_) <;> intro hTw <;> first | (exact Bool.noConfusion hTw) | ((first | (guard_hyp hTw : true = true; clear hTw) | (guard_hyp hTw : false = false; clear hTw) | (revert hTw; intro _))))
          | ((with_reducible refine And.intro ?_ ?_); (focus (first | omega | rfl | decide | grind)))
          | (with_reducible refine aw_block ?_)
          | (with_reducible refine aw_scope ?_)
          | ((first
              | ((with_reducible refine aw_regionA T_ok ?_ ?_); (focus kernel_rfl))
              | ((with_reducible refine aw_drawnA T_ok ?_ ?_ ?_ ?_); (focus kernel_rfl); (focus kernel_rfl); (focus (decide +kernel)))
              | ((with_reducible refine aw_drawnF T_ok ?_ ?_ ?_ ?_); (focus kernel_rfl); (focus kernel_rfl); (focus (decide +kernel)))
              | ((with_reducible refine callK_intro (hC) (by with_unfolding_all rfl) ?_ ?_); (focus kernel_rfl))
              | ((with_reducible refine callI_spec (hC) (by with_unfolding_all rfl) ?_ ?_ ?_); (focus kernel_rfl); (focus kernel_rfl))
              | ((with_reducible refine callK_intro (hK) (by with_unfolding_all rfl) ?_ ?_); (focus kernel_rfl))
              | ((with_reducible refine callI_spec (hK) (by with_unfolding_all rfl) ?_ ?_ ?_); (focus kernel_rfl); (focus kernel_rfl))
              | ((with_reducible refine callK_fz (hL) rfl ?_ ?_ ?_); (focus (repeat' (first | (exact FzA.nil) | (exact FzL.nil) | (exact FzLL.nil) | (exact FzLL_dV _) | (exact Fz.d rfl) | (refine FzA.one ?_ ?_) | (refine FzA.agg ?_ ?_) | (refine FzL.cons ?_ ?_) | (refine FzLL.cons ?_ ?_) | (exact hln) | (refine Fz.fn ?_ (by kernel_rfl) (hln)) | (refine Fz.fm ?_ (by kernel_rfl) (hln)) | (refine Fz.fc (by kernel_rfl) (hln)) | (refine Fz.pt rfl ?_) | (refine Fz.mp rfl ?_ ?_ ?_) | (refine Fz.row rfl ?_) | (refine Fz.ag ?_))); done); (focus kernel_rfl))
              | ((with_reducible refine callI_fz (hL) rfl ?_ ?_ ?_ ?_); (focus (repeat' (first | (exact FzA.nil) | (exact FzL.nil) | (exact FzLL.nil) | (exact FzLL_dV _) | (exact Fz.d rfl) | (refine FzA.one ?_ ?_) | (refine FzA.agg ?_ ?_) | (refine FzL.cons ?_ ?_) | (refine FzLL.cons ?_ ?_) | (exact hln) | (refine Fz.fn ?_ (by kernel_rfl) (hln)) | (refine Fz.fm ?_ (by kernel_rfl) (hln)) | (refine Fz.fc (by kernel_rfl) (hln)) | (refine Fz.pt rfl ?_) | (refine Fz.mp rfl ?_ ?_ ?_) | (refine Fz.row rfl ?_) | (refine Fz.ag ?_))); done); (focus kernel_rfl); (focus kernel_rfl))
              | ((with_reducible refine callK_fz (hD) rfl ?_ ?_ ?_); (focus (repeat' (first | (exact FzA.nil) | (exact FzL.nil) | (exact FzLL.nil) | (exact FzLL_dV _) | (exact Fz.d rfl) | (refine FzA.one ?_ ?_) | (refine FzA.agg ?_ ?_) | (refine FzL.cons ?_ ?_) | (refine FzLL.cons ?_ ?_) | (exact office_fn) | (refine Fz.fn ?_ (by kernel_rfl) (office_fn)) | (refine Fz.fm ?_ (by kernel_rfl) (office_fn)) | (refine Fz.fc (by kernel_rfl) (office_fn)) | (refine Fz.pt rfl ?_) | (refine Fz.mp rfl ?_ ?_ ?_) | (refine Fz.row rfl ?_) | (refine Fz.ag ?_))); done); (focus kernel_rfl))
              | ((with_reducible refine callI_fz (hD) rfl ?_ ?_ ?_ ?_); (focus (repeat' (first | (exact FzA.nil) | (exact FzL.nil) | (exact FzLL.nil) | (exact FzLL_dV _) | (exact Fz.d rfl) | (refine FzA.one ?_ ?_) | (refine FzA.agg ?_ ?_) | (refine FzL.cons ?_ ?_) | (refine FzLL.cons ?_ ?_) | (exact office_fn) | (refine Fz.fn ?_ (by kernel_rfl) (office_fn)) | (refine Fz.fm ?_ (by kernel_rfl) (office_fn)) | (refine Fz.fc (by kernel_rfl) (office_fn)) | (refine Fz.pt rfl ?_) | (refine Fz.mp rfl ?_ ?_ ?_) | (refine Fz.row rfl ?_) | (refine Fz.ag ?_))); done); (focus kernel_rfl); (focus kernel_rfl))
              | ((with_reducible refine callK_skip (.r1 (aB false)) (by with_unfolding_all rfl) ?_ ?_); (focus kernel_rfl))
              | (with_reducible refine aw_label ?_)
              | ((with_reducible refine aw_rfM ?_ ?_); (focus kernel_rfl))
              | (with_reducible refine aw_skip ?_)
              | (with_reducible refine aw_exit ?_)
              | ((with_reducible refine aw_condM ?_ ?_); (focus kernel_rfl))
              | (with_reducible refine aw_ret ?_)
            ); simp only [↓avP, avQ, if_true, if_false, forall_const, beq_self_eq_true, eq_self, ne_eq, implies_true, reduceIte, Nat.reduceEqDiff, Nat.reduceAdd, Nat.reduceSub, Int.reduceToNat, Nat.reduceLeDiff, Nat.reduceLT, reduceCtorEq, Int.reduceEq, retQ, retL, resV, RetV, RetOk, SubL, intD_B, lotD_B, flowD_B, snocI, snocL, ty_3, ty_27, ty_4, ty_24, ty_40, ty_22, ty_31, ty_68, ty_50, issD_get, hk, g1, hany, hdd]; try simp (disch := omega) only [av_w, av_t1, av_tp, Int.toNat_natCast]))
        first | exact hfin 1 (hbad (by rw [hcq, hdd]; simp)) rfl | exact (hfin 1 (hbad (by rw [hcq, hdd]; simp)) rfl).2
      | true =>
        cases hss : sortedB coal with
        | false =>
          repeat' (first
            | (with_reducible refine aw_seq ?_)
            | ((with_reducible refine twoG_intro ?_ ?_) <;> intro hTw <;> first | (exact Bool.noConfusion hTw) | ((try simp only [hTw, Bool.not_true, Bool.not_false, Bool.true_and, Bool.false_and, Bool.and_true, Bool.and_false, Bool.true_or, Bool.false_or, Bool.or_true, Bool.or_false]); (first | (guard_hyp hTw : true = true; clear hTw) | (guard_hyp hTw : false = false; clear hTw) | (revert hTw; intro _))))
            | ((with_reducible refine two_intro ?_ ?_) <;> intro hTw <;> first | (exact Bool.noConfusion hTw) | ((first | (guard_hyp hTw : true = true; clear hTw) | (guard_hyp hTw : false = false; clear hTw) | (revert hTw; intro _))))
            | ((with_reducible refine And.intro ?_ ?_); (focus (first | omega | rfl | decide | grind)))
            | (with_reducible refine aw_block ?_)
            | (with_reducible refine aw_scope ?_)
            | ((first
                | ((with_reducible refine aw_regionA T_ok ?_ ?_); (focus kernel_rfl))
                | ((with_reducible refine aw_drawnA T_ok ?_ ?_ ?_ ?_); (focus kernel_rfl); (focus kernel_rfl); (focus (decide +kernel)))
                | ((with_reducible refine aw_drawnF T_ok ?_ ?_ ?_ ?_); (focus kernel_rfl); (focus kernel_rfl); (focus (decide +kernel)))
                | ((with_reducible refine callK_intro (hC) (by with_unfolding_all rfl) ?_ ?_); (focus kernel_rfl))
                | ((with_reducible refine callI_spec (hC) (by with_unfolding_all rfl) ?_ ?_ ?_); (focus kernel_rfl); (focus kernel_rfl))
                | ((with_reducible refine callK_intro (hK) (by with_unfolding_all rfl) ?_ ?_); (focus kernel_rfl))
                | ((with_reducible refine callI_spec (hK) (by with_unfolding_all rfl) ?_ ?_ ?_); (focus kernel_rfl); (focus kernel_rfl))
                | ((with_reducible refine callK_fz (hL) rfl ?_ ?_ ?_); (focus (repeat' (first | (exact FzA.nil) | (exact FzL.nil) | (exact FzLL.nil) | (exact FzLL_dV _) | (exact Fz.d rfl) | (refine FzA.one ?_ ?_) | (refine FzA.agg ?_ ?_) | (refine FzL.cons ?_ ?_) | (refine FzLL.cons ?_ ?_) | (exact hln) | (refine Fz.fn ?_ (by kernel_rfl) (hln)) | (refine Fz.fm ?_ (by kernel_rfl) (hln)) | (refine Fz.fc (by kernel_rfl) (hln)) | (refine Fz.pt rfl ?_) | (refine Fz.mp rfl ?_ ?_ ?_) | (refine Fz.row rfl ?_) | (refine Fz.ag ?_))); done); (focus kernel_rfl))
                | ((with_reducible refine callI_fz (hL) rfl ?_ ?_ ?_ ?_); (focus (repeat' (first | (exact FzA.nil) | (exact FzL.nil) | (exact FzLL.nil) | (exact FzLL_dV _) | (exact Fz.d rfl) | (refine FzA.one ?_ ?_) | (refine FzA.agg ?_ ?_) | (refine FzL.cons ?_ ?_) | (refine FzLL.cons ?_ ?_) | (exact hln) | (refine Fz.fn ?_ (by kernel_rfl) (hln)) | (refine Fz.fm ?_ (by kernel_rfl) (hln)) | (refine Fz.fc (by kernel_rfl) (hln)) | (refine Fz.pt rfl ?_) | (refine Fz.mp rfl ?_ ?_ ?_) | (refine Fz.row rfl ?_) | (refine Fz.ag ?_))); done); (focus kernel_rfl); (focus kernel_rfl))
                | ((with_reducible refine callK_fz (hD) rfl ?_ ?_ ?_); (focus (repeat' (first | (exact FzA.nil) | (exact FzL.nil) | (exact FzLL.nil) | (exact FzLL_dV _) | (exact Fz.d rfl) | (refine FzA.one ?_ ?_) | (refine FzA.agg ?_ ?_) | (refine FzL.cons ?_ ?_) | (refine FzLL.cons ?_ ?_) | (exact office_fn) | (refine Fz.fn ?_ (by kernel_rfl) (office_fn)) | (refine Fz.fm ?_ (by kernel_rfl) (office_fn)) | (refine Fz.fc (by kernel_rfl) (office_fn)) | (refine Fz.pt rfl ?_) | (refine Fz.mp rfl ?_ ?_ ?_) | (refine Fz.row rfl ?_) | (refine Fz.ag ?_))); done); (focus kernel_rfl))
                | ((with_reducible refine callI_fz (hD) rfl ?_ ?_ ?_ ?_); (focus (repeat' (first | (exact FzA.nil) | (exact FzL.nil) | (exact FzLL.nil) | (exact FzLL_dV _) | (exact Fz.d rfl) | (refine FzA.one ?_ ?_) | (refine FzA.agg ?_ ?_) | (refine FzL.cons ?_ ?_) | (refine FzLL.cons ?_ ?_) | (exact office_fn) | (refine Fz.fn ?_ (by kernel_rfl) (office_fn)) | (refine Fz.fm ?_ (by kernel_rfl) (office_fn)) | (refine Fz.fc (by kernel_rfl) (office_fn)) | (refine Fz.pt rfl ?_) | (refine Fz.mp rfl ?_ ?_ ?_) | (refine Fz.row rfl ?_) | (refine Fz.ag ?_))); done); (focus kernel_rfl); (focus kernel_rfl))
                | ((with_reducible refine callK_intro (hS) (by with_unfolding_all rfl) ?_ ?_); (focus kernel_rfl))
                | ((with_reducible refine callI_spec (hS) (by with_unfolding_all rfl) ?_ ?_ ?_); (focus kernel_rfl); (focus kernel_rfl))
                | ((with_reducible refine callK_skip (.r1 (aB false)) (by with_unfolding_all rfl) ?_ ?_); (focus kernel_rfl))
                | (with_reducible refine aw_label ?_)
                | ((with_reducible refine aw_rfM ?_ ?_); (focus kernel_rfl))
                | (with_reducible refine aw_skip ?_)
                | (with_reducible refine aw_exit ?_)
                | ((with_reducible refine aw_condM ?_ ?_); (focus kernel_rfl))
                | (with_reducible refine aw_ret ?_)
              ); simp only [↓avP, avQ, if_true, if_false, forall_const, beq_self_eq_true, eq_self, ne_eq, implies_true, reduceIte, Nat.reduceEqDiff, Nat.reduceAdd, Nat.reduceSub, Int.reduceToNat, Nat.reduceLeDiff, Nat.reduceLT, reduceCtorEq, Int.reduceEq, retQ, retL, resV, RetV, RetOk, SubL, intD_B, lotD_B, flowD_B, snocI, snocL, ty_3, ty_27, ty_4, ty_24, ty_40, ty_22, ty_31, ty_68, ty_50, issD_get, hk, g1, hany, hdd, hss]; try simp (disch := omega) only [av_w, av_t1, av_tp, Int.toNat_natCast]))
          first | exact hfin 1 (hbad (by rw [hcq, hss]; simp)) rfl | exact (hfin 1 (hbad (by rw [hcq, hss]; simp)) rfl).2
        | true =>
          have he : errV f lines coal = 0 := by rw [errV, if_neg (by simpa using hc), if_pos (by rw [hk, hla, hany, hcq, hdd, hss, decide_eq_true hll]; rfl)]
          repeat' (first
            | (with_reducible refine aw_seq ?_)
            | ((with_reducible refine twoG_intro ?_ ?_) <;> intro hTw <;> first | (exact Bool.noConfusion hTw) | ((try simp only [hTw, Bool.not_true, Bool.not_false, Bool.true_and, Bool.false_and, Bool.and_true, Bool.and_false, Bool.true_or, Bool.false_or, Bool.or_true, Bool.or_false]); (first | (guard_hyp hTw : true = true; clear hTw) | (guard_hyp hTw : false = false; clear hTw) | (revert hTw; intro _))))
            | ((with_reducible refine two_intro ?_ ?_) <;> intro hTw <;> first | (exact Bool.noConfusion hTw) | ((first | (guard_hyp hTw : true = true; clear hTw) | (guard_hyp hTw : false = false; clear hTw) | (revert hTw; intro _))))
            | ((with_reducible refine And.intro ?_ ?_); (focus (first | omega | rfl | decide | grind)))
            | (with_reducible refine aw_block ?_)
            | (with_reducible refine aw_scope ?_)
            | ((first
                | ((with_reducible refine aw_regionA T_ok ?_ ?_); (focus kernel_rfl))
                | ((with_reducible refine aw_drawnA T_ok ?_ ?_ ?_ ?_); (focus kernel_rfl); (focus kernel_rfl); (focus (decide +kernel)))
                | ((with_reducible refine aw_drawnF T_ok ?_ ?_ ?_ ?_); (focus kernel_rfl); (focus kernel_rfl); (focus (decide +kernel)))
                | ((with_reducible refine callK_intro (hC) (by with_unfolding_all rfl) ?_ ?_); (focus kernel_rfl))
                | ((with_reducible refine callI_spec (hC) (by with_unfolding_all rfl) ?_ ?_ ?_); (focus kernel_rfl); (focus kernel_rfl))
                | ((with_reducible refine callK_intro (hK) (by with_unfolding_all rfl) ?_ ?_); (focus kernel_rfl))
                | ((with_reducible refine callI_spec (hK) (by with_unfolding_all rfl) ?_ ?_ ?_); (focus kernel_rfl); (focus kernel_rfl))
                | ((with_reducible refine callK_fz (hL) rfl ?_ ?_ ?_); (focus (repeat' (first | (exact FzA.nil) | (exact FzL.nil) | (exact FzLL.nil) | (exact FzLL_dV _) | (exact Fz.d rfl) | (refine FzA.one ?_ ?_) | (refine FzA.agg ?_ ?_) | (refine FzL.cons ?_ ?_) | (refine FzLL.cons ?_ ?_) | (exact hln) | (refine Fz.fn ?_ (by kernel_rfl) (hln)) | (refine Fz.fm ?_ (by kernel_rfl) (hln)) | (refine Fz.fc (by kernel_rfl) (hln)) | (refine Fz.pt rfl ?_) | (refine Fz.mp rfl ?_ ?_ ?_) | (refine Fz.row rfl ?_) | (refine Fz.ag ?_))); done); (focus kernel_rfl))
                | ((with_reducible refine callI_fz (hL) rfl ?_ ?_ ?_ ?_); (focus (repeat' (first | (exact FzA.nil) | (exact FzL.nil) | (exact FzLL.nil) | (exact FzLL_dV _) | (exact Fz.d rfl) | (refine FzA.one ?_ ?_) | (refine FzA.agg ?_ ?_) | (refine FzL.cons ?_ ?_) | (refine FzLL.cons ?_ ?_) | (exact hln) | (refine Fz.fn ?_ (by kernel_rfl) (hln)) | (refine Fz.fm ?_ (by kernel_rfl) (hln)) | (refine Fz.fc (by kernel_rfl) (hln)) | (refine Fz.pt rfl ?_) | (refine Fz.mp rfl ?_ ?_ ?_) | (refine Fz.row rfl ?_) | (refine Fz.ag ?_))); done); (focus kernel_rfl); (focus kernel_rfl))
                | ((with_reducible refine callK_fz (hD) rfl ?_ ?_ ?_); (focus (repeat' (first | (exact FzA.nil) | (exact FzL.nil) | (exact FzLL.nil) | (exact FzLL_dV _) | (exact Fz.d rfl) | (refine FzA.one ?_ ?_) | (refine FzA.agg ?_ ?_) | (refine FzL.cons ?_ ?_) | (refine FzLL.cons ?_ ?_) | (exact office_fn) | (refine Fz.fn ?_ (by kernel_rfl) (office_fn)) | (refine Fz.fm ?_ (by kernel_rfl) (office_fn)) | (refine Fz.fc (by kernel_rfl) (office_fn)) | (refine Fz.pt rfl ?_) | (refine Fz.mp rfl ?_ ?_ ?_) | (refine Fz.row rfl ?_) | (refine Fz.ag ?_))); done); (focus kernel_rfl))
                | ((with_reducible refine callI_fz (hD) rfl ?_ ?_ ?_ ?_); (focus (repeat' (first | (exact FzA.nil) | (exact FzL.nil) | (exact FzLL.nil) | (exact FzLL_dV _) | (exact Fz.d rfl) | (refine FzA.one ?_ ?_) | (refine FzA.agg ?_ ?_) | (refine FzL.cons ?_ ?_) | (refine FzLL.cons ?_ ?_) | (exact office_fn) | (refine Fz.fn ?_ (by kernel_rfl) (office_fn)) | (refine Fz.fm ?_ (by kernel_rfl) (office_fn)) | (refine Fz.fc (by kernel_rfl) (office_fn)) | (refine Fz.pt rfl ?_) | (refine Fz.mp rfl ?_ ?_ ?_) | (refine Fz.row rfl ?_) | (refine Fz.ag ?_))); done); (focus kernel_rfl); (focus kernel_rfl))
                | ((with_reducible refine callK_intro (hS) (by with_unfolding_all rfl) ?_ ?_); (focus kernel_rfl))
                | ((with_reducible refine callI_spec (hS) (by with_unfolding_all rfl) ?_ ?_ ?_); (focus kernel_rfl); (focus kernel_rfl))
                | (with_reducible refine aw_label ?_)
                | ((with_reducible refine aw_rfM ?_ ?_); (focus kernel_rfl))
                | (with_reducible refine aw_skip ?_)
                | (with_reducible refine aw_exit ?_)
                | ((with_reducible refine aw_condM ?_ ?_); (focus kernel_rfl))
                | (with_reducible refine aw_ret ?_)
              ); simp only [↓avP, avQ, if_true, if_false, forall_const, beq_self_eq_true, eq_self, ne_eq, implies_true, reduceIte, Nat.reduceEqDiff, Nat.reduceAdd, Nat.reduceSub, Int.reduceToNat, Nat.reduceLeDiff, Nat.reduceLT, reduceCtorEq, Int.reduceEq, retQ, retL, resV, RetV, RetOk, SubL, intD_B, lotD_B, flowD_B, snocI, snocL, ty_3, ty_27, ty_4, ty_24, ty_40, ty_22, ty_31, ty_68, ty_50, issD_get, hk, g1, hany, hdd, hss]; try simp (disch := omega) only [av_w, av_t1, av_tp, Int.toNat_natCast]))
          have z2 := (checkF_zero hc).2.1
          refine aw_loopI (fun k : Nat => ⟨[(1, vIss lines), (6, .ptr 2 0), (7, vI 0), (11, .fn 50 [.ptr 1 0]), (54, vLots f.lots), (55, vI f.lots.length), (56, vI k)],
            [(4, .tok 40 3 (viewEs f lines coal k).length), (2, .cells 24 [vI f.senders, .ow 4 3 (lotD default) (viewEs f lines coal k)]), (1, .cells 27 [vIs coal])], 5⟩)
            (fun k => k ≤ f.lots.length) (fun k => f.lots.length - k) 0 (Nat.zero_le _) (wk_of [(1, some 1), (2, some 2), (4, none)] rfl rfl ?_ ?_) ?_
          · simp only [wkT, wkB, wkB1, subV, subVs, subD, subB, lkN_n, lkN_c, lkT_n, lkT_c, lkB_n, lkB_c, if_true, if_false, reduceIte, Nat.reduceEqDiff, true_and, and_true, and_self, inT, ofA]
            (repeat' (first | exact trivial | rfl | exact rfl | exact subVs_d _ _ | exact subVs_dm _ _ | exact subD_refl _ | refine And.intro ?_ ?_))
          · simp only [wkT, wkB, wkB1, subV, subVs, subD, subB, lkN_n, lkN_c, lkT_n, lkT_c, lkB_n, lkB_c, if_true, if_false, reduceIte, Nat.reduceEqDiff, true_and, and_true, and_self, inT, ofA]
            (repeat' (first | exact trivial | rfl | exact rfl | exact subVs_d _ _ | exact subVs_dm _ _ | exact subD_refl _ | refine And.intro ?_ ?_))
          intro k hkl
          have hvl := viewEs_len f lines coal k
          rcases Nat.lt_or_ge k f.lots.length with hlt | hge
          · have hd := ltd hlt
            have hxl : (lines.getD k []).length ≤ 140737488351232 := (hx _ (mem_getD (by omega))).1
            have hI := ints_contains (lines.getD k []) (fun n => !decide (n ∈ coal)) hxl
            have hes := viewEs_succ f lines coal k
            have hsb : ((lines.getD k []).any fun n => !decide (n ∈ coal)) = !seesB lines coal k := by
              unfold seesB
              rw [Bool.eq_iff_iff, List.any_eq_true, Bool.not_eq_true', List.all_eq_false]
              constructor
              · rintro ⟨x, h1, h2⟩; exact ⟨x, h1, by simpa using h2⟩
              · rintro ⟨x, h1, h2⟩; exact ⟨x, h1, by simpa using h2⟩
            have hstk := hst k
            cases hse : seesB lines coal k with
            | true =>
              rw [viewE, if_pos hse] at hes
              rw [hse] at hsb
              repeat' (first
                | (with_reducible refine aw_seq ?_)
                | ((with_reducible refine twoG_intro ?_ ?_) <;> intro hTw <;> first | (exact Bool.noConfusion hTw) | ((try simp only [hTw, Bool.not_true, Bool.not_false, Bool.true_and, Bool.false_and, Bool.and_true, Bool.and_false, Bool.true_or, Bool.false_or, Bool.or_true, Bool.or_false]); (first | (guard_hyp hTw : true = true; clear hTw) | (guard_hyp hTw : false = false; clear hTw) | (revert hTw; intro _))))
                | ((with_reducible refine two_intro ?_ ?_) <;> intro hTw <;> first | (exact Bool.noConfusion hTw) | ((first | (guard_hyp hTw : true = true; clear hTw) | (guard_hyp hTw : false = false; clear hTw) | (revert hTw; intro _))))
                | ((with_reducible refine And.intro ?_ ?_); (focus (first | omega | rfl | decide | grind)))
                | (with_reducible refine aw_block ?_)
                | (with_reducible refine aw_scope ?_)
                | ((first
                    | ((with_reducible refine aw_regionA T_ok ?_ ?_); (focus kernel_rfl))
                    | ((with_reducible refine aw_drawnA T_ok ?_ ?_ ?_ ?_); (focus kernel_rfl); (focus kernel_rfl); (focus (decide +kernel)))
                    | ((with_reducible refine aw_drawnF T_ok ?_ ?_ ?_ ?_); (focus kernel_rfl); (focus kernel_rfl); (focus (decide +kernel)))
                    | ((with_reducible refine callK_fz (hI) rfl ?_ ?_ ?_); (focus (repeat' (first | (exact FzA.nil) | (exact FzL.nil) | (exact FzLL.nil) | (exact FzLL_dV _) | (exact Fz.d rfl) | (refine FzA.one ?_ ?_) | (refine FzA.agg ?_ ?_) | (refine FzL.cons ?_ ?_) | (refine FzLL.cons ?_ ?_) | (exact hstk) | (refine Fz.fn ?_ (by kernel_rfl) (hstk)) | (refine Fz.fm ?_ (by kernel_rfl) (hstk)) | (refine Fz.fc (by kernel_rfl) (hstk)) | (refine Fz.pt rfl ?_) | (refine Fz.mp rfl ?_ ?_ ?_) | (refine Fz.row rfl ?_) | (refine Fz.ag ?_))); done); (focus kernel_rfl))
                    | ((with_reducible refine callI_fz (hI) rfl ?_ ?_ ?_ ?_); (focus (repeat' (first | (exact FzA.nil) | (exact FzL.nil) | (exact FzLL.nil) | (exact FzLL_dV _) | (exact Fz.d rfl) | (refine FzA.one ?_ ?_) | (refine FzA.agg ?_ ?_) | (refine FzL.cons ?_ ?_) | (refine FzLL.cons ?_ ?_) | (exact hstk) | (refine Fz.fn ?_ (by kernel_rfl) (hstk)) | (refine Fz.fm ?_ (by kernel_rfl) (hstk)) | (refine Fz.fc (by kernel_rfl) (hstk)) | (refine Fz.pt rfl ?_) | (refine Fz.mp rfl ?_ ?_ ?_) | (refine Fz.row rfl ?_) | (refine Fz.ag ?_))); done); (focus kernel_rfl); (focus kernel_rfl))
                    | (with_reducible refine aw_label ?_)
                    | ((with_reducible refine aw_rfM ?_ ?_); (focus kernel_rfl))
                    | (with_reducible refine aw_skip ?_)
                    | (with_reducible refine aw_exit ?_)
                    | ((with_reducible refine aw_condM ?_ ?_); (focus kernel_rfl))
                    | (with_reducible refine aw_ret ?_)
                  ); simp only [↓avP, avQ, if_true, if_false, forall_const, beq_self_eq_true, eq_self, ne_eq, implies_true, reduceIte, Nat.reduceEqDiff, Nat.reduceAdd, Nat.reduceSub, Int.reduceToNat, Nat.reduceLeDiff, Nat.reduceLT, reduceCtorEq, Int.reduceEq, retQ, retL, resV, RetV, RetOk, SubL, intD_B, lotD_B, flowD_B, snocI, snocL, ty_3, ty_27, ty_4, ty_24, ty_40, ty_22, ty_31, ty_68, ty_50, issD_get, hd, hsb]; try simp (disch := omega) only [av_w, av_t1, av_tp, Int.toNat_natCast]))
              refine ⟨k + 1, by omega, by dsimp only; omega, wk_of [(1, some 1), (2, some 2), (4, some 7)] rfl rfl ?_ ?_⟩
              · simp only [wkT, wkB, wkB1, subV, subVs, subD, subB, lkN_n, lkN_c, lkT_n, lkT_c, lkB_n, lkB_c, if_true, if_false, reduceIte, Nat.reduceEqDiff, true_and, and_true, and_self, inT, ofA]
                (repeat' (first | exact trivial | rfl | exact rfl | exact subVs_d _ _ | exact subVs_dm _ _ | exact subD_refl _ | refine And.intro ?_ ?_))
              · simp only [wkT, wkB, wkB1, subV, subVs, subD, subB, lkN_n, lkN_c, lkT_n, lkT_c, lkB_n, lkB_c, if_true, if_false, reduceIte, Nat.reduceEqDiff, true_and, and_true, and_self, inT, ofA]
                rw [hes]
                (repeat' (first | (simp; done) | exact trivial | rfl | exact rfl | exact subVs_d _ _ | exact subVs_dm _ _ | exact subD_refl _ | refine And.intro ?_ ?_))
            | false =>
              rw [viewE, if_neg (by rw [hse]; simp)] at hes
              rw [hse] at hsb
              have ht1 : List.take 1 (dV (lotD (f.lots.getD k default))) = [V.d (.sl 1 (intD 0) ((f.lots.getD k default).inn.map intD))] := rfl
              repeat' (first
                | (with_reducible refine aw_seq ?_)
                | ((with_reducible refine twoG_intro ?_ ?_) <;> intro hTw <;> first | (exact Bool.noConfusion hTw) | ((try simp only [hTw, Bool.not_true, Bool.not_false, Bool.true_and, Bool.false_and, Bool.and_true, Bool.and_false, Bool.true_or, Bool.false_or, Bool.or_true, Bool.or_false]); (first | (guard_hyp hTw : true = true; clear hTw) | (guard_hyp hTw : false = false; clear hTw) | (revert hTw; intro _))))
                | ((with_reducible refine two_intro ?_ ?_) <;> intro hTw <;> first | (exact Bool.noConfusion hTw) | ((first | (guard_hyp hTw : true = true; clear hTw) | (guard_hyp hTw : false = false; clear hTw) | (revert hTw; intro _))))
                | ((with_reducible refine And.intro ?_ ?_); (focus (first | omega | rfl | decide | grind)))
                | (with_reducible refine aw_block ?_)
                | (with_reducible refine aw_scope ?_)
                | ((first
                    | ((with_reducible refine aw_regionA T_ok ?_ ?_); (focus kernel_rfl))
                    | ((with_reducible refine aw_drawnA T_ok ?_ ?_ ?_ ?_); (focus kernel_rfl); (focus kernel_rfl); (focus (decide +kernel)))
                    | ((with_reducible refine aw_drawnF T_ok ?_ ?_ ?_ ?_); (focus kernel_rfl); (focus kernel_rfl); (focus (decide +kernel)))
                    | ((with_reducible refine callK_fz (hI) rfl ?_ ?_ ?_); (focus (repeat' (first | (exact FzA.nil) | (exact FzL.nil) | (exact FzLL.nil) | (exact FzLL_dV _) | (exact Fz.d rfl) | (refine FzA.one ?_ ?_) | (refine FzA.agg ?_ ?_) | (refine FzL.cons ?_ ?_) | (refine FzLL.cons ?_ ?_) | (exact hstk) | (refine Fz.fn ?_ (by kernel_rfl) (hstk)) | (refine Fz.fm ?_ (by kernel_rfl) (hstk)) | (refine Fz.fc (by kernel_rfl) (hstk)) | (refine Fz.pt rfl ?_) | (refine Fz.mp rfl ?_ ?_ ?_) | (refine Fz.row rfl ?_) | (refine Fz.ag ?_))); done); (focus kernel_rfl))
                    | ((with_reducible refine callI_fz (hI) rfl ?_ ?_ ?_ ?_); (focus (repeat' (first | (exact FzA.nil) | (exact FzL.nil) | (exact FzLL.nil) | (exact FzLL_dV _) | (exact Fz.d rfl) | (refine FzA.one ?_ ?_) | (refine FzA.agg ?_ ?_) | (refine FzL.cons ?_ ?_) | (refine FzLL.cons ?_ ?_) | (exact hstk) | (refine Fz.fn ?_ (by kernel_rfl) (hstk)) | (refine Fz.fm ?_ (by kernel_rfl) (hstk)) | (refine Fz.fc (by kernel_rfl) (hstk)) | (refine Fz.pt rfl ?_) | (refine Fz.mp rfl ?_ ?_ ?_) | (refine Fz.row rfl ?_) | (refine Fz.ag ?_))); done); (focus kernel_rfl); (focus kernel_rfl))
                    | (with_reducible refine aw_label ?_)
                    | ((with_reducible refine aw_rfM ?_ ?_); (focus kernel_rfl))
                    | (with_reducible refine aw_skip ?_)
                    | (with_reducible refine aw_exit ?_)
                    | ((with_reducible refine aw_condM ?_ ?_); (focus kernel_rfl))
                    | (with_reducible refine aw_ret ?_)
                  ); simp only [↓avP, avQ, if_true, if_false, forall_const, beq_self_eq_true, eq_self, ne_eq, implies_true, reduceIte, Nat.reduceEqDiff, Nat.reduceAdd, Nat.reduceSub, Int.reduceToNat, Nat.reduceLeDiff, Nat.reduceLT, reduceCtorEq, Int.reduceEq, retQ, retL, resV, RetV, RetOk, SubL, intD_B, lotD_B, flowD_B, snocI, snocL, ty_3, ty_27, ty_4, ty_24, ty_40, ty_22, ty_31, ty_68, ty_50, issD_get, hd, hsb, ht1]; try simp (disch := omega) only [av_w, av_t1, av_tp, Int.toNat_natCast]))
              refine ⟨k + 1, by omega, by dsimp only; omega, wk_of [(1, some 1), (2, some 2), (4, some 7)] rfl rfl ?_ ?_⟩
              · simp only [wkT, wkB, wkB1, subV, subVs, subD, subB, lkN_n, lkN_c, lkT_n, lkT_c, lkB_n, lkB_c, if_true, if_false, reduceIte, Nat.reduceEqDiff, true_and, and_true, and_self, inT, ofA]
                (repeat' (first | exact trivial | rfl | exact rfl | exact subVs_d _ _ | exact subVs_dm _ _ | exact subD_refl _ | refine And.intro ?_ ?_))
              · simp only [wkT, wkB, wkB1, subV, subVs, subD, subB, lkN_n, lkN_c, lkT_n, lkT_c, lkB_n, lkB_c, if_true, if_false, reduceIte, Nat.reduceEqDiff, true_and, and_true, and_self, inT, ofA]
                rw [hes]
                (repeat' (first | (simp; done) | exact trivial | rfl | exact rfl | exact subVs_d _ _ | exact subVs_dm _ _ | exact subD_refl _ | refine And.intro ?_ ?_))
          · obtain rfl : k = f.lots.length := by omega
            have hd := ged (Nat.le_refl f.lots.length)
            repeat' (first
              | (with_reducible refine aw_seq ?_)
              | ((with_reducible refine twoG_intro ?_ ?_) <;> intro hTw <;> first | (exact Bool.noConfusion hTw) | ((try simp only [hTw, Bool.not_true, Bool.not_false, Bool.true_and, Bool.false_and, Bool.and_true, Bool.and_false, Bool.true_or, Bool.false_or, Bool.or_true, Bool.or_false]); (first | (guard_hyp hTw : true = true; clear hTw) | (guard_hyp hTw : false = false; clear hTw) | (revert hTw; intro _))))
              | ((with_reducible refine two_intro ?_ ?_) <;> intro hTw <;> first | (exact Bool.noConfusion hTw) | ((first | (guard_hyp hTw : true = true; clear hTw) | (guard_hyp hTw : false = false; clear hTw) | (revert hTw; intro _))))
              | ((with_reducible refine And.intro ?_ ?_); (focus (first | omega | rfl | decide | grind)))
              | (with_reducible refine aw_block ?_)
              | (with_reducible refine aw_scope ?_)
              | ((first
                  | ((with_reducible refine aw_regionA T_ok ?_ ?_); (focus kernel_rfl))
                  | ((with_reducible refine aw_drawnA T_ok ?_ ?_ ?_ ?_); (focus kernel_rfl); (focus kernel_rfl); (focus (decide +kernel)))
                  | ((with_reducible refine aw_drawnF T_ok ?_ ?_ ?_ ?_); (focus kernel_rfl); (focus kernel_rfl); (focus (decide +kernel)))
                  | (with_reducible refine aw_label ?_)
                  | ((with_reducible refine aw_rfM ?_ ?_); (focus kernel_rfl))
                  | (with_reducible refine aw_skip ?_)
                  | (with_reducible refine aw_exit ?_)
                  | ((with_reducible refine aw_condM ?_ ?_); (focus kernel_rfl))
                  | (with_reducible refine aw_ret ?_)
                ); simp only [↓avP, avQ, if_true, if_false, forall_const, beq_self_eq_true, eq_self, ne_eq, implies_true, reduceIte, Nat.reduceEqDiff, Nat.reduceAdd, Nat.reduceSub, Int.reduceToNat, Nat.reduceLeDiff, Nat.reduceLT, reduceCtorEq, Int.reduceEq, retQ, retL, resV, RetV, RetOk, SubL, intD_B, lotD_B, flowD_B, snocI, snocL, ty_3, ty_27, ty_4, ty_24, ty_40, ty_22, ty_31, ty_68, ty_50, issD_get, hd]; try simp (disch := omega) only [av_w, av_t1, av_tp, Int.toNat_natCast]))
            rw [viewR, he, if_pos rfl]
            refine ⟨Sub.aggL ⟨SubD.refl _, SubD.sl ?_, trivial⟩, Sub.refl _⟩
            rw [viewEs, viewAt, List.map_map]
            exact SubEs.map _ _ _ fun k _ => viewE_sub f lines coal k
end Go.Proofs.Ytncihbmehbiekaa

