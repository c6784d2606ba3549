import Derived.Test.YtlnkmaejiceloaaHH22
import Derived.Test.YtlnkmaejiceloaaHH23
import Derived.Test.YtlnkmaejiceloaaRows
import Derived.WalkKit
import Derived.ProofKit
import Derived.OpenShut
import Derived.Carry
import Derived.ChangeSlices
import Derived.Test.YtlnkmaejiceloaaHH1
import Derived.SizedLaws
import Derived.Test.YtlnkmaejiceloaaHH19
import Derived.Test.YtlnkmaejiceloaaHH9
import Derived.Test.YtlnkmaejiceloaaHH8
namespace Go.Proofs.Ytlnkmaejiceloaa
set_option linter.unusedSimpArgs false
set_option linter.unusedVariables false
open Go.RowKit
set_option maxRecDepth 100000
set_option maxHeartbeats 4000000
theorem mem_keepL {brk : List Int → Bool} {x : List Int} : ∀ {xs L : List (List Int)}, x ∈ keepL brk L xs → x ∈ L ∨ x ∈ xs
  | [], L, h => .inl h
  | y :: xs, L, h => by
    rcases mem_keepL (xs := xs) (L := stepL brk L y) h with h | h
    · unfold stepL at h
      split at h
      · rcases List.mem_append.1 h with h | h
        · exact .inl h
        · exact .inr (by rw [List.mem_singleton.1 h]; simp)
      · exact .inl h
    · exact .inr (by simp [h])
theorem allL_co {off n : Nat} {x : List Int} (h : x ∈ allL off n) : isCo off x ∧ x.length < n := by
  unfold allL at h
  rw [List.mem_flatMap] at h
  obtain ⟨k, hk, hx⟩ := h
  have := chL_co k [] (isCo.nil off) x hx
  rw [List.mem_range] at hk
  rw [List.length_nil] at this
  exact ⟨this.1, by omega⟩
theorem leastR_co {f : FlowP} {lines : List (List Int)} {o s need : Int} {x : List Int} (h : x ∈ leastR f lines o s need) : errL f lines o s = 0 ∧ isCo o.toNat x := by
  unfold leastR at h
  split at h
  · rename_i he
    rcases mem_keepL h with h | h
    · cases h
    · exact ⟨he, (allL_co h).1⟩
  · cases h
theorem errL_zero {f : FlowP} {lines : List (List Int)} {o s : Int} (h : errL f lines o s = 0) : errB f lines [] s = 0 ∧ 0 ≤ o ∧ o ≤ 12 := by
  unfold errL at h
  split at h
  · rename_i h1; exact (h1 h).elim
  · rename_i h1
    split at h
    · cases h
    · split at h
      · cases h
      · exact ⟨by omega, by omega, by omega⟩
theorem leastR_len (f : FlowP) (lines : List (List Int)) (o s need : Int) : (leastR f lines o s need).length ≤ 53248 ∧ ∀ k, ((leastR f lines o s need).getD k []).length ≤ 12 := by
  refine ⟨?_, fun k => ?_⟩
  · unfold leastR
    split
    · rename_i he
      have hz := errL_zero he
      have h1 := keepL_len (fun x => brkB f lines x s need) (allL o.toNat (o.toNat + 1)) []
      have h2 := allL_len (off := o.toNat) (n := o.toNat + 1) (by omega) (by omega)
      rw [List.length_nil] at h1
      omega
    · simp
  · rcases Nat.lt_or_ge k (leastR f lines o s need).length with hk | hk
    · have h := leastR_co (mem_getD (d := []) hk)
      have := h.2.len
      have hz := errL_zero h.1
      omega
    · simp [List.getD, hk]
def isB (f : FlowP) (lines : List (List Int)) (need : Int) (want : List (List Int)) : Bool := decide (errL f lines 2 0 = 0) && decide (leastR f lines 2 0 need = want)
theorem bis_spec (f : FlowP) (lines : List (List Int)) (need : Int) (want : List (List Int)) (ho : OkV f lines) (hw : want.length ≤ 140737488351232) : Spec Try.prog 24 [.agg (flowD f), aIss lines, aI need, aIss want] (.r1 (aB (isB f lines need want))) := by
  refine spec_of T_ok Try.func24 (by dsimp only [Try.f24]) rfl rfl (by simp) fun w F => ?_
  have hL := bleast_spec f lines 2 0 need ho (by omega)
  obtain ⟨l1, l2⟩ := leastR_len f lines 2 0 need
  have hS := qbsame_spec (leastR f lines 2 0 need) want (fun k => by have := l2 k; omega) (by omega) hw
  by_cases he : errL f lines 2 0 = 0
  · rw [he] at hL
    have hb : isB f lines need want = decide (leastR f lines 2 0 need = want) := by rw [isB, decide_eq_true he, Bool.true_and]
    rw [hb]
    repeat' (first | (with_reducible refine aw_seq ?_) | ((with_reducible refine twoG_intro ?_ ?_) <;> intro hTw <;> first | (exact Bool.noConfusion hTw) | ((try simp only [hTw, avT]); (first | (guard_hyp hTw : true = true; clear hTw) | (guard_hyp hTw : false = false; clear hTw) | (revert hTw; intro _)))) | ((with_reducible refine two_intro ?_ ?_) <;> intro hTw <;> first | (exact Bool.noConfusion hTw) | ((first | (guard_hyp hTw : true = true; clear hTw) | (guard_hyp hTw : false = false; clear hTw) | (revert hTw; intro _)))) | ((with_reducible refine And.intro ?_ ?_); (focus (first | omega | rfl | decide | grind))) | (with_reducible refine aw_block ?_) | (with_reducible refine aw_scope ?_) | ((first | ((with_reducible refine aw_regionA T_ok ?_ ?_); (focus kernel_rfl)) | ((with_reducible refine aw_drawnA T_ok ?_ ?_ ?_ ?_); (focus kernel_rfl); (focus kernel_rfl); (focus (decide +kernel))) | ((with_reducible refine aw_drawnF T_ok ?_ ?_ ?_ ?_); (focus kernel_rfl); (focus kernel_rfl); (focus (decide +kernel))) | ((with_reducible refine callK_intro (hL) (by with_unfolding_all rfl) ?_ ?_); (focus kernel_rfl)) | ((with_reducible refine callI_spec (hL) (by with_unfolding_all rfl) ?_ ?_ ?_); (focus kernel_rfl); (focus kernel_rfl)) | ((with_reducible refine callK_intro (hS) (by with_unfolding_all rfl) ?_ ?_); (focus kernel_rfl)) | ((with_reducible refine callI_spec (hS) (by with_unfolding_all rfl) ?_ ?_ ?_); (focus kernel_rfl); (focus kernel_rfl)) | (with_reducible refine aw_label ?_) | ((with_reducible refine aw_rfM ?_ ?_); (focus kernel_rfl)) | (with_reducible refine aw_skip ?_) | (with_reducible refine aw_exit ?_) | ((with_reducible refine aw_condM ?_ ?_); (focus kernel_rfl)) | (with_reducible refine aw_ret ?_)); simp only [↓avP, avQ, if_true, if_false, forall_const, beq_self_eq_true, eq_self, ne_eq, implies_true, reduceIte, Nat.reduceEqDiff, Nat.reduceAdd, Nat.reduceSub, Int.reduceToNat, Nat.reduceLeDiff, Nat.reduceLT, reduceCtorEq, Int.reduceEq, retQ, retL, resV, RetV, RetOk, SubL, intD_B, lotD_B, flowD_B, snocI, snocL, ty_3, ty_26, ty_4, ty_24, ty_50, ty_22, ty_25, issD_get]; try simp (disch := omega) only [av_w, av_t1, av_tp, Int.toNat_natCast]))
    exact Sub.refl _
  · have hd : (errL f lines 2 0 == 0) = false := by simpa using he
    have hb : isB f lines need want = false := by rw [isB, decide_eq_false he]; rfl
    rw [hb]
    repeat' (first | (with_reducible refine aw_seq ?_) | ((with_reducible refine twoG_intro ?_ ?_) <;> intro hTw <;> first | (exact Bool.noConfusion hTw) | ((try simp only [hTw, avT]); (first | (guard_hyp hTw : true = true; clear hTw) | (guard_hyp hTw : false = false; clear hTw) | (revert hTw; intro _)))) | ((with_reducible refine two_intro ?_ ?_) <;> intro hTw <;> first | (exact Bool.noConfusion hTw) | ((first | (guard_hyp hTw : true = true; clear hTw) | (guard_hyp hTw : false = false; clear hTw) | (revert hTw; intro _)))) | ((with_reducible refine And.intro ?_ ?_); (focus (first | omega | rfl | decide | grind))) | (with_reducible refine aw_block ?_) | (with_reducible refine aw_scope ?_) | ((first | ((with_reducible refine aw_regionA T_ok ?_ ?_); (focus kernel_rfl)) | ((with_reducible refine aw_drawnA T_ok ?_ ?_ ?_ ?_); (focus kernel_rfl); (focus kernel_rfl); (focus (decide +kernel))) | ((with_reducible refine aw_drawnF T_ok ?_ ?_ ?_ ?_); (focus kernel_rfl); (focus kernel_rfl); (focus (decide +kernel))) | ((with_reducible refine callK_intro (hL) (by with_unfolding_all rfl) ?_ ?_); (focus kernel_rfl)) | ((with_reducible refine callI_spec (hL) (by with_unfolding_all rfl) ?_ ?_ ?_); (focus kernel_rfl); (focus kernel_rfl)) | ((with_reducible refine callK_skip (.r1 (aB false)) (by with_unfolding_all rfl) ?_ ?_); (focus kernel_rfl)) | (with_reducible refine aw_label ?_) | ((with_reducible refine aw_rfM ?_ ?_); (focus kernel_rfl)) | (with_reducible refine aw_skip ?_) | (with_reducible refine aw_exit ?_) | ((with_reducible refine aw_condM ?_ ?_); (focus kernel_rfl)) | (with_reducible refine aw_ret ?_)); simp only [↓avP, avQ, if_true, if_false, forall_const, beq_self_eq_true, eq_self, ne_eq, implies_true, reduceIte, Nat.reduceEqDiff, Nat.reduceAdd, Nat.reduceSub, Int.reduceToNat, Nat.reduceLeDiff, Nat.reduceLT, reduceCtorEq, Int.reduceEq, retQ, retL, resV, RetV, RetOk, SubL, intD_B, lotD_B, flowD_B, snocI, snocL, ty_3, ty_26, ty_4, ty_24, ty_50, ty_22, ty_25, issD_get, hd]; try simp (disch := omega) only [av_w, av_t1, av_tp, Int.toNat_natCast]))
    exact Sub.refl _
def upL (k : Nat) : List Int := (List.range k).map fun i : Nat => (i : Int)
theorem upL_succ (k : Nat) : upL (k + 1) = upL k ++ [(k : Int)] := by simp [upL, List.range_succ]
theorem upL_len (k : Nat) : (upL k).length = k := by simp [upL]
theorem bknown_spec (l : List Int) (hl : l.length ≤ 1000000) : Spec Try.prog 23 [aIs l] (.r1 (.agg (lotD ⟨l, true, upL l.length⟩))) := by
  refine spec_of T_ok Try.func23 (by dsimp only [Try.f23]) rfl rfl (by simp) fun w F => ?_
  repeat' (first | (with_reducible refine aw_seq ?_) | ((with_reducible refine twoG_intro ?_ ?_) <;> intro hTw <;> first | (exact Bool.noConfusion hTw) | ((try simp only [hTw, avT]); (first | (guard_hyp hTw : true = true; clear hTw) | (guard_hyp hTw : false = false; clear hTw) | (revert hTw; intro _)))) | ((with_reducible refine two_intro ?_ ?_) <;> intro hTw <;> first | (exact Bool.noConfusion hTw) | ((first | (guard_hyp hTw : true = true; clear hTw) | (guard_hyp hTw : false = false; clear hTw) | (revert hTw; intro _)))) | ((with_reducible refine And.intro ?_ ?_); (focus (first | omega | rfl | decide | grind))) | (with_reducible refine aw_block ?_) | (with_reducible refine aw_scope ?_) | ((first | ((with_reducible refine aw_regionA T_ok ?_ ?_); (focus kernel_rfl)) | ((with_reducible refine aw_drawnA T_ok ?_ ?_ ?_ ?_); (focus kernel_rfl); (focus kernel_rfl); (focus (decide +kernel))) | ((with_reducible refine aw_drawnF T_ok ?_ ?_ ?_ ?_); (focus kernel_rfl); (focus kernel_rfl); (focus (decide +kernel))) | (with_reducible refine aw_label ?_) | ((with_reducible refine aw_rfM ?_ ?_); (focus kernel_rfl)) | (with_reducible refine aw_skip ?_) | (with_reducible refine aw_exit ?_) | ((with_reducible refine aw_condM ?_ ?_); (focus kernel_rfl)) | (with_reducible refine aw_ret ?_)); simp only [↓avP, avQ, if_true, if_false, forall_const, beq_self_eq_true, eq_self, ne_eq, implies_true, reduceIte, Nat.reduceEqDiff, Nat.reduceAdd, Nat.reduceSub, Int.reduceToNat, Nat.reduceLeDiff, Nat.reduceLT, reduceCtorEq, Int.reduceEq, retQ, retL, resV, RetV, RetOk, SubL, intD_B, lotD_B, flowD_B, snocI, snocL, ty_3, ty_26, ty_4, ty_24, ty_50, ty_22, ty_25, issD_get]; try simp (disch := omega) only [av_w, av_t1, av_tp, Int.toNat_natCast]))
  refine aw_nilC 1 2 3 1 (dV (intD 0)) rfl rfl ?_
  refine aw_frzD 2 (intD 0) [] rfl rfl ?_
  simp only [frzS, frzM, frzK, frz1, frz2, frz_dV, List.map_cons, List.map_nil, setB, reduceIte, Nat.reduceEqDiff]
  refine aw_loopI (fun k : Nat => ⟨[(2, .ptr 0 0), (3, .ptr 1 0), (8, vI l.length), (9, vI k)], [(0, .cells 50 [.d (.c (.slice none 0 0)), vB false, .d (.c (.slice none 0 0))]), (1, .cells 50 [vIs l, vB true, .ow 2 1 (intD 0) ((upL k).map intD)]), (2, .tok 3 1 (upL k).length)], 3⟩) (fun k => k ≤ l.length) (fun k => l.length - k) 0 (Nat.zero_le _) (wk_of [(0, some 0), (1, some 1), (2, some 2)] rfl rfl ?_ ?_) ?_
  · simp only [wkT, wkB, wkB1, subV, subVs, subD, subB, lkN_n, lkN_c, lkT_n, lkT_c, lkB_n, lkB_c, if_true, if_false, reduceIte, Nat.reduceEqDiff, true_and, and_true, and_self, inT, ofA]
    (repeat' (first | exact trivial | rfl | exact rfl | exact subVs_d _ _ | exact subVs_dm _ _ | exact subD_refl _ | refine And.intro ?_ ?_))
  · simp only [wkT, wkB, wkB1, subV, subVs, subD, subB, lkN_n, lkN_c, lkT_n, lkT_c, lkB_n, lkB_c, if_true, if_false, reduceIte, Nat.reduceEqDiff, true_and, and_true, and_self, inT, ofA]
    (repeat' (first | exact trivial | rfl | exact rfl | exact subVs_d _ _ | exact subVs_dm _ _ | exact subD_refl _ | refine And.intro ?_ ?_))
  intro k hk
  have hul := upL_len k
  rcases Nat.lt_or_ge k l.length with hlt | hge
  · have hd := ltd hlt
    have hs := upL_succ k
    repeat' (first | (with_reducible refine aw_seq ?_) | ((with_reducible refine twoG_intro ?_ ?_) <;> intro hTw <;> first | (exact Bool.noConfusion hTw) | ((try simp only [hTw, avT]); (first | (guard_hyp hTw : true = true; clear hTw) | (guard_hyp hTw : false = false; clear hTw) | (revert hTw; intro _)))) | ((with_reducible refine two_intro ?_ ?_) <;> intro hTw <;> first | (exact Bool.noConfusion hTw) | ((first | (guard_hyp hTw : true = true; clear hTw) | (guard_hyp hTw : false = false; clear hTw) | (revert hTw; intro _)))) | ((with_reducible refine And.intro ?_ ?_); (focus (first | omega | rfl | decide | grind))) | (with_reducible refine aw_block ?_) | (with_reducible refine aw_scope ?_) | ((first | ((with_reducible refine aw_regionA T_ok ?_ ?_); (focus kernel_rfl)) | ((with_reducible refine aw_drawnA T_ok ?_ ?_ ?_ ?_); (focus kernel_rfl); (focus kernel_rfl); (focus (decide +kernel))) | ((with_reducible refine aw_drawnF T_ok ?_ ?_ ?_ ?_); (focus kernel_rfl); (focus kernel_rfl); (focus (decide +kernel))) | (with_reducible refine aw_label ?_) | ((with_reducible refine aw_rfM ?_ ?_); (focus kernel_rfl)) | (with_reducible refine aw_skip ?_) | (with_reducible refine aw_exit ?_) | ((with_reducible refine aw_condM ?_ ?_); (focus kernel_rfl)) | (with_reducible refine aw_ret ?_)); simp only [↓avP, avQ, if_true, if_false, forall_const, beq_self_eq_true, eq_self, ne_eq, implies_true, reduceIte, Nat.reduceEqDiff, Nat.reduceAdd, Nat.reduceSub, Int.reduceToNat, Nat.reduceLeDiff, Nat.reduceLT, reduceCtorEq, Int.reduceEq, retQ, retL, resV, RetV, RetOk, SubL, intD_B, lotD_B, flowD_B, snocI, snocL, ty_3, ty_26, ty_4, ty_24, ty_50, ty_22, ty_25, issD_get, hd]; try simp (disch := omega) only [av_w, av_t1, av_tp, Int.toNat_natCast]))
    refine ⟨k + 1, by omega, by dsimp only; omega, wk_of [(0, some 0), (1, some 1), (2, some 4)] rfl rfl ?_ ?_⟩
    · simp only [wkT, wkB, wkB1, subV, subVs, subD, subB, lkN_n, lkN_c, lkT_n, lkT_c, lkB_n, lkB_c, if_true, if_false, reduceIte, Nat.reduceEqDiff, true_and, and_true, and_self, inT, ofA]
      (repeat' (first | exact trivial | rfl | exact rfl | exact subVs_d _ _ | exact subVs_dm _ _ | exact subD_refl _ | refine And.intro ?_ ?_))
    · simp only [wkT, wkB, wkB1, subV, subVs, subD, subB, lkN_n, lkN_c, lkT_n, lkT_c, lkB_n, lkB_c, if_true, if_false, reduceIte, Nat.reduceEqDiff, true_and, and_true, and_self, inT, ofA]
      rw [hs]
      (repeat' (first | ((simp; done)) | exact trivial | rfl | exact rfl | exact subVs_d _ _ | exact subVs_dm _ _ | exact subD_refl _ | refine And.intro ?_ ?_))
  · obtain rfl : k = l.length := by omega
    have hd := ged (Nat.le_refl l.length)
    repeat' (first | (with_reducible refine aw_seq ?_) | ((with_reducible refine twoG_intro ?_ ?_) <;> intro hTw <;> first | (exact Bool.noConfusion hTw) | ((try simp only [hTw, avT]); (first | (guard_hyp hTw : true = true; clear hTw) | (guard_hyp hTw : false = false; clear hTw) | (revert hTw; intro _)))) | ((with_reducible refine two_intro ?_ ?_) <;> intro hTw <;> first | (exact Bool.noConfusion hTw) | ((first | (guard_hyp hTw : true = true; clear hTw) | (guard_hyp hTw : false = false; clear hTw) | (revert hTw; intro _)))) | ((with_reducible refine And.intro ?_ ?_); (focus (first | omega | rfl | decide | grind))) | (with_reducible refine aw_block ?_) | (with_reducible refine aw_scope ?_) | ((first | ((with_reducible refine aw_regionA T_ok ?_ ?_); (focus kernel_rfl)) | ((with_reducible refine aw_drawnA T_ok ?_ ?_ ?_ ?_); (focus kernel_rfl); (focus kernel_rfl); (focus (decide +kernel))) | ((with_reducible refine aw_drawnF T_ok ?_ ?_ ?_ ?_); (focus kernel_rfl); (focus kernel_rfl); (focus (decide +kernel))) | (with_reducible refine aw_label ?_) | ((with_reducible refine aw_rfM ?_ ?_); (focus kernel_rfl)) | (with_reducible refine aw_skip ?_) | (with_reducible refine aw_exit ?_) | ((with_reducible refine aw_condM ?_ ?_); (focus kernel_rfl)) | (with_reducible refine aw_ret ?_)); simp only [↓avP, avQ, if_true, if_false, forall_const, beq_self_eq_true, eq_self, ne_eq, implies_true, reduceIte, Nat.reduceEqDiff, Nat.reduceAdd, Nat.reduceSub, Int.reduceToNat, Nat.reduceLeDiff, Nat.reduceLT, reduceCtorEq, Int.reduceEq, retQ, retL, resV, RetV, RetOk, SubL, intD_B, lotD_B, flowD_B, snocI, snocL, ty_3, ty_26, ty_4, ty_24, ty_50, ty_22, ty_25, issD_get, hd]; try simp (disch := omega) only [av_w, av_t1, av_tp, Int.toNat_natCast]))
    exact Sub.refl _
abbrev xF (L : List LotP) : A := .agg [iL 2, .sl 3 (zD (.agg #[.slice none 0 0, .bool false, .slice none 0 0])) (L.map lotD)]
theorem sF (L : List LotP) : Sub (xF L) (.agg (flowD ⟨2, L⟩)) := Sub.aggL ⟨SubD.refl _, SubD.of _ _ ⟨rfl, rfl⟩, trivial⟩
abbrev xLs (L : List (List Int)) : A := .one (.sl 1 (zD (.slice none 0 0)) (L.map fun l => [isL l]))
theorem sLs (L : List (List Int)) : Sub (xLs L) (aIss L) := Sub.sl rfl
abbrev onF : FlowP := ⟨2, [⟨[0, 1], true, [0, 1]⟩]⟩
abbrev twF : FlowP := ⟨2, [⟨[0, 1], true, [0, 1]⟩, ⟨[2, 3], true, [0, 1]⟩]⟩
def okVb (f : FlowP) (lines : List (List Int)) : Bool := okFb f && decide (lines.length ≤ 140737488351232) && lines.all okIb
theorem okV_b {f : FlowP} {lines : List (List Int)} (h : okVb f lines = true) : OkV f lines := by
  unfold okVb at h
  simp only [Bool.and_eq_true, decide_eq_true_eq, List.all_eq_true] at h
  exact ⟨okF_b h.1.1, h.1.2, fun x hx => ⟨(okI_b (h.2 x hx)).2, (okI_b (h.2 x hx)).1⟩⟩
theorem ex_is {xf xl xw : A} {f : FlowP} {lines : List (List Int)} {need : Int} {want : List (List Int)} (hf : Sub xf (.agg (flowD f))) (hl : Sub xl (aIss lines)) (hw : Sub xw (aIss want)) (h1 : okVb f lines = true) (h2 : want.length ≤ 140737488351232) (h3 : isB f lines need want = true) : Spec Try.prog 24 [xf, xl, aI need, xw] (.r1 (aB true)) := by
  rw [← h3]
  exact (bis_spec f lines need want (okV_b h1) h2).args ⟨hf, hl, Sub.refl _, hw, trivial⟩
theorem ex_brk {xf xl xc : A} {f : FlowP} {lines : List (List Int)} {x : List Int} {s need : Int} (b : Bool) (e : Int) (hf : Sub xf (.agg (flowD f))) (hl : Sub xl (aIss lines)) (hc : Sub xc (aIs x)) (h1 : okVb f lines = true) (h2 : okIb x = true) (h3 : brkR f lines x s need = b) (h4 : errB f lines x s = e) : Spec Try.prog 11 [xf, xl, xc, aI s, aI need] (.rt [aB b, aI e]) := by
  subst h3 h4
  obtain ⟨c2, c1⟩ := okI_b h2
  exact (bbreaks_spec f lines x s need (okV_b h1) c1 c2).args ⟨hf, hl, hc, Sub.refl _, Sub.refl _, trivial⟩
theorem ex_least {xf xl : A} {f : FlowP} {lines : List (List Int)} {o s need : Int} (L : List (List Int)) (e : Int) (hf : Sub xf (.agg (flowD f))) (hl : Sub xl (aIss lines)) (h1 : okVb f lines = true) (h2 : -9223372036854775808 ≤ o ∧ o ≤ 9223372036854775807) (h3 : leastR f lines o s need = L) (h4 : errL f lines o s = e) : Spec Try.prog 13 [xf, xl, aI o, aI s, aI need] (.rt [aIss L, aI e]) := by
  subst h3 h4
  exact (bleast_spec f lines o s need (okV_b h1) h2).args ⟨hf, hl, Sub.refl _, Sub.refl _, Sub.refl _, trivial⟩
theorem bsane_spec : Spec Try.prog 9 [] (.r1 (aB true)) := by
  refine spec_of T_ok Try.func9 (by dsimp only [Try.f9]) rfl rfl (by simp) fun w F => ?_
  have k1 : Spec Try.prog 23 [aIs [0, 1]] (.r1 (.agg (lotD ⟨[0, 1], true, [0, 1]⟩))) := bknown_spec [0, 1] (by decide)
  have k2 : Spec Try.prog 23 [aIs [2, 3]] (.r1 (.agg (lotD ⟨[2, 3], true, [0, 1]⟩))) := bknown_spec [2, 3] (by decide)
  have a1 := ex_is (need := 2) (sF onF.lots) (sLs [[0, 1]]) (sLs [[0, 1]]) (by decide +kernel) (by decide) (by decide +kernel)
  have a2 := ex_is (need := 3) (xw := .one (.sl 1 (zD (.slice none 0 0)) [[nilL]])) (want := [[]]) (sF onF.lots) (sLs [[0, 1]]) (SubD.sl (d0 := zD (.slice none 0 0)) (d1 := issD []) (es := [[nilL]]) (fs := [issD []]) ⟨⟨sub_nil, trivial⟩, trivial⟩) (by decide +kernel) (by decide) (by decide +kernel)
  have a3 := ex_is (need := 1) (xw := .one nilL) (want := []) (sF onF.lots) (sLs [[0, 1]]) (Sub.nil _ _) (by decide +kernel) (by decide) (by decide +kernel)
  have a4 := ex_is (need := 2) (sF twF.lots) (sLs [[0], [1]]) (sLs [[0, 1]]) (by decide +kernel) (by decide) (by decide +kernel)
  have b1 := ex_brk (s := 1) (need := 2) true 0 (sF onF.lots) (sLs [[0, 1]]) (Sub.refl (aIs [0, 1])) (by decide +kernel) (by decide +kernel) (by decide +kernel) (by decide +kernel)
  have b2 := ex_brk (s := 1) (need := 2) false 0 (sF onF.lots) (sLs [[0, 1]]) (Sub.refl (aIs [1])) (by decide +kernel) (by decide +kernel) (by decide +kernel) (by decide +kernel)
  have b3 := ex_brk (xc := .one nilL) (x := []) (s := 2) (need := 2) false 1 (sF onF.lots) (sLs [[0, 1]]) (Sub.nil _ _) (by decide +kernel) (by decide +kernel) (by decide +kernel) (by decide +kernel)
  have c1 := ex_least (o := 13) (s := 0) (need := 2) [] 2 (sF onF.lots) (sLs [[0, 1]]) (by decide +kernel) (by omega) (by decide +kernel) (by decide +kernel)
  have c2 := ex_least (o := -1) (s := 0) (need := 2) [] 1 (sF onF.lots) (sLs [[0, 1]]) (by decide +kernel) (by omega) (by decide +kernel) (by decide +kernel)
  have c3 := ex_least (xl := .one nilL) (lines := []) (o := 2) (s := 0) (need := 2) [] 1 (sF onF.lots) (Sub.nil _ _) (by decide +kernel) (by omega) (by decide +kernel) (by decide +kernel)
  repeat' (first | (with_reducible refine aw_seq ?_) | ((with_reducible refine twoG_intro ?_ ?_) <;> intro hTw <;> first | (exact Bool.noConfusion hTw) | ((try simp only [hTw, avT]); (first | (guard_hyp hTw : true = true; clear hTw) | (guard_hyp hTw : false = false; clear hTw) | (revert hTw; intro _)))) | ((with_reducible refine two_intro ?_ ?_) <;> intro hTw <;> first | (exact Bool.noConfusion hTw) | ((first | (guard_hyp hTw : true = true; clear hTw) | (guard_hyp hTw : false = false; clear hTw) | (revert hTw; intro _)))) | ((with_reducible refine And.intro ?_ ?_); (focus (first | omega | rfl | decide | grind))) | (with_reducible refine aw_block ?_) | (with_reducible refine aw_scope ?_) | ((first | ((with_reducible refine aw_regionA T_ok ?_ ?_); (focus kernel_rfl)) | ((with_reducible refine aw_drawnA T_ok ?_ ?_ ?_ ?_); (focus kernel_rfl); (focus kernel_rfl); (focus (decide +kernel))) | ((with_reducible refine aw_drawnF T_ok ?_ ?_ ?_ ?_); (focus kernel_rfl); (focus kernel_rfl); (focus (decide +kernel))) | ((with_reducible refine callK_intro (k1) (by with_unfolding_all rfl) ?_ ?_); (focus kernel_rfl)) | ((with_reducible refine callI_spec (k1) (by with_unfolding_all rfl) ?_ ?_ ?_); (focus kernel_rfl); (focus kernel_rfl)) | ((with_reducible refine callK_intro (k2) (by with_unfolding_all rfl) ?_ ?_); (focus kernel_rfl)) | ((with_reducible refine callI_spec (k2) (by with_unfolding_all rfl) ?_ ?_ ?_); (focus kernel_rfl); (focus kernel_rfl)) | ((with_reducible refine callK_intro (a1) (by with_unfolding_all rfl) ?_ ?_); (focus kernel_rfl)) | ((with_reducible refine callI_spec (a1) (by with_unfolding_all rfl) ?_ ?_ ?_); (focus kernel_rfl); (focus kernel_rfl)) | ((with_reducible refine callK_intro (a2) (by with_unfolding_all rfl) ?_ ?_); (focus kernel_rfl)) | ((with_reducible refine callI_spec (a2) (by with_unfolding_all rfl) ?_ ?_ ?_); (focus kernel_rfl); (focus kernel_rfl)) | ((with_reducible refine callK_intro (a3) (by with_unfolding_all rfl) ?_ ?_); (focus kernel_rfl)) | ((with_reducible refine callI_spec (a3) (by with_unfolding_all rfl) ?_ ?_ ?_); (focus kernel_rfl); (focus kernel_rfl)) | ((with_reducible refine callK_intro (a4) (by with_unfolding_all rfl) ?_ ?_); (focus kernel_rfl)) | ((with_reducible refine callI_spec (a4) (by with_unfolding_all rfl) ?_ ?_ ?_); (focus kernel_rfl); (focus kernel_rfl)) | ((with_reducible refine callK_intro (b1) (by with_unfolding_all rfl) ?_ ?_); (focus kernel_rfl)) | ((with_reducible refine callI_spec (b1) (by with_unfolding_all rfl) ?_ ?_ ?_); (focus kernel_rfl); (focus kernel_rfl)) | ((with_reducible refine callK_intro (b2) (by with_unfolding_all rfl) ?_ ?_); (focus kernel_rfl)) | ((with_reducible refine callI_spec (b2) (by with_unfolding_all rfl) ?_ ?_ ?_); (focus kernel_rfl); (focus kernel_rfl)) | ((with_reducible refine callK_intro (b3) (by with_unfolding_all rfl) ?_ ?_); (focus kernel_rfl)) | ((with_reducible refine callI_spec (b3) (by with_unfolding_all rfl) ?_ ?_ ?_); (focus kernel_rfl); (focus kernel_rfl)) | ((with_reducible refine callK_intro (c1) (by with_unfolding_all rfl) ?_ ?_); (focus kernel_rfl)) | ((with_reducible refine callI_spec (c1) (by with_unfolding_all rfl) ?_ ?_ ?_); (focus kernel_rfl); (focus kernel_rfl)) | ((with_reducible refine callK_intro (c2) (by with_unfolding_all rfl) ?_ ?_); (focus kernel_rfl)) | ((with_reducible refine callI_spec (c2) (by with_unfolding_all rfl) ?_ ?_ ?_); (focus kernel_rfl); (focus kernel_rfl)) | ((with_reducible refine callK_intro (c3) (by with_unfolding_all rfl) ?_ ?_); (focus kernel_rfl)) | ((with_reducible refine callI_spec (c3) (by with_unfolding_all rfl) ?_ ?_ ?_); (focus kernel_rfl); (focus kernel_rfl)) | (with_reducible refine aw_label ?_) | ((with_reducible refine aw_rfM ?_ ?_); (focus kernel_rfl)) | (with_reducible refine aw_skip ?_) | (with_reducible refine aw_exit ?_) | ((with_reducible refine aw_condM ?_ ?_); (focus kernel_rfl)) | (with_reducible refine aw_ret ?_)); simp only [↓avP, avQ, if_true, if_false, forall_const, beq_self_eq_true, eq_self, ne_eq, implies_true, reduceIte, Nat.reduceEqDiff, Nat.reduceAdd, Nat.reduceSub, Int.reduceToNat, Nat.reduceLeDiff, Nat.reduceLT, reduceCtorEq, Int.reduceEq, retQ, retL, resV, RetV, RetOk, SubL, intD_B, lotD_B, flowD_B, snocI, snocL, ty_3, ty_26, ty_4, ty_24, ty_50, ty_22, ty_25, issD_get]; try simp (disch := omega) only [av_w, av_t1, av_tp, Int.toNat_natCast]))
  all_goals first | exact Sub.refl _ | trace_state
end Go.Proofs.Ytlnkmaejiceloaa


namespace Go.Proofs.Ytlnkmaejiceloaa
set_option linter.unusedSimpArgs false
set_option linter.unusedVariables false
open Go.ChangeShapes Go.WideShapes Go.ChangeAt Go.RowKit

theorem trodAll_below {H : Type} {enc : TypeId × Value → H} {P : Program} (hl : laidOutB P = true) {W W' : World} (hb : Below W.heap.size W W') {sp : Nat → Bool} :
    ∀ {ts : List TypeId} {vs : List Value} {ds : List (DataW H)} {ps : List MemPlace}, (∀ t ∈ ts, P.readableRec t = true ∧ t < P.types.size) → (∀ x ∈ ps, x.block < W.heap.size) → (∀ x ∈ ps, sp x.block = true) →
      DataW.TrodAll enc P W 0 (fun _ => true) true ts vs ds ps → DataW.TrodAll enc P W' 0 sp true ts vs ds ps
  | [], _, _, _, _, _, _, h => by
    obtain ⟨rfl, rfl, rfl⟩ := trodAll_nil h
    exact rfl
  | t :: ts, _, _, _, hr, hlt, hsp, h => by
    obtain ⟨v, vs1, d, ds1, a, b, rfl, rfl, rfl, h1, h2⟩ := trodAll_cons h
    refine ⟨a, b, ?_, trodAll_below hl hb (fun u hu => hr u (List.mem_cons_of_mem _ hu)) (fun x hx => hlt x (by simp [hx])) (fun x hx => hsp x (by simp [hx])) h2, rfl⟩
    exact WideElems.Trod_stays hl (hr t (by simp)).1 (hr t (by simp)).2 h1 (fun x hx => hb.same (hlt x (by simp [hx]))) (fun x hx => hsp x (by simp [hx]))

/-- the post of a law that answers true and has only read -/
theorem post_read {H : Type} {enc : TypeId × Value → H} {P : Program} {f : Func} {s : ChangeSpec} {fresh handsOn again : Bool} {W W' : World} {args : Array Value} {ds : List (DataW H)} {before : List MemPlace} {tb : TypeId}
    (hl : laidOutB P = true) (hs : s.vars = []) (hr : f.resultTypes = #[tb]) (htb : P.underlying tb = some .bool)
    (hts : (f.params.toList.all fun t => P.readableRec t && decide (t < P.types.size)) = true)
    (hfn : s.fn H (ds ++ []) = { results := [.lit (.bool true)], args := ds })
    (hW : DataW.Whole enc P f.params.toList s.vars false W args.toList ds [] before) (hb : Below W.heap.size W W') :
    s.post enc P f false fresh handsOn again W args (.bool true) W' := by
  have hW0 := hW
  have hlt : ∀ p ∈ before, p.block < W.heap.size := fun p hp => hW.lt p hp
  have hold : ∀ p ∈ before, (fun b => decide (b < W.heap.size)) p.block = true := fun p hp => by simpa using hlt p hp
  rw [hs] at hW
  obtain ⟨p, q, hA, hV, rfl, hz, hn⟩ := hW
  obtain ⟨_, rfl⟩ := trodVars_none hV
  rw [List.append_nil] at hlt hold hz hn
  have hts' : ∀ t ∈ f.params.toList, P.readableRec t = true ∧ t < P.types.size := fun t ht => by
    have := List.all_eq_true.1 hts t ht
    simpa using this
  have hargs : ∀ sp : Nat → Bool, (∀ x ∈ p, sp x.block = true) → DataW.TrodAll enc P W' 0 sp true f.params.toList args.toList (s.fn H (ds ++ [])).args p := fun sp hsp => by
    rw [hfn]
    exact trodAll_below hl hb hts' hlt hsp hA
  have hres : ∀ (b : Nat) (sp : Nat → Bool) (hd : Bool), DataW.TrodAll enc P W' b sp hd f.resultTypes.toList ((Value.bool true).resultList f.resultTypes.size) (s.fn H (ds ++ [])).results [] := fun b sp hd => by
    rw [hfn, hr]
    exact trodAll_cons_mk (shut_bool htb _) trodAll_mk0
  have hvars : ∀ sp : Nat → Bool, DataW.TrodVars enc P W' sp s.vars (s.fn H (ds ++ [])).vars [] := fun sp => by
    rw [hfn, hs]
    exact rfl
  have hok : ∀ (j : Nat) (t : TypeId) (r : Value), f.resultTypes[j]? = some t → ((Value.bool true).resultList f.resultTypes.size)[j]? = some r → Value.okWide P W' .any 0 t r :=
    ok_one hr rfl (okWide_bool_mk htb _)
  refine ⟨ds, [], p ++ [], [], p, [], hW0, hres _ _ _, hargs _ hold, hvars _, World.keptBut_mono (fun x hx => ⟨hx, ?_⟩) (hb.frame (· ∈ p ++ [])), fun _ => ?_⟩
  · simpa using hx
  · refine ⟨hok, _, _, ([] ++ p) ++ [], ⟨[] ++ p, [], trodAll_append (hargs _ (fun _ _ => rfl)) (hres _ _ _), hvars _, rfl, ?_, ?_⟩, ?_⟩
    · intro b off hp
      have hp' : MemPlace.cell b off ∈ p := by simpa using hp
      rw [hb.frozen (p := ⟨b, off, none⟩) (hlt _ hp')]
      exact hz b off hp'
    · intro ha
      cases ha
    · intro x hx _
      simpa using hx

end Go.Proofs.Ytlnkmaejiceloaa


namespace Go.Proofs.Ytlnkmaejiceloaa
set_option linter.unusedSimpArgs false
open Go.ChangeShapes Go.WideShapes Go.ChangeAt Go.RowKit
set_option linter.unusedVariables false

def Opens {α : Type} (P : Program) (t : TypeId) (R : RepT α) : Prop :=
  ∀ {H : Type} {enc : TypeId × Value → H} {W : World} {n : Nat} {cs : List Value} {x : DataW H × List MemPlace}, DataW.trod enc P W 0 (fun _ => true) true n t cs = some x → (∀ k ∈ x.1.weights P t, k ≤ reachBytes) → ∃ y : α, R (Now W) W y cs
section
variable {α β : Type} {P : Program} {t e : TypeId} {sz : Nat} {R : RepT α}
theorem opens_int {k : IntKind} (hu : P.underlying t = some (.int k)) : Opens P t (RI k) := fun h _ => by
  obtain ⟨n, e, _, hw⟩ := DataW.trod_int hu h
  exact ⟨n, e, hw⟩
theorem opens_bool (hu : P.underlying t = some .bool) : Opens P t RB := fun h _ => by
  obtain ⟨b, e, _⟩ := DataW.trod_bool hu h
  exact ⟨b, e⟩
theorem mapM_get {f : Nat → Option Value} : ∀ {l : List Nat} {cs : List Value}, l.mapM f = some cs → cs.length = l.length ∧ ∀ (j : Nat) (u : Value), cs[j]? = some u → ∃ i : Nat, l[j]? = some i ∧ f i = some u
  | [], cs, h => by
    simp at h
    subst h
    exact ⟨rfl, fun j u h => by simp at h⟩
  | i :: l, cs, h => by
    rw [List.mapM_cons] at h
    cases h1 : f i with
    | none => simp [h1] at h
    | some u =>
      cases h2 : l.mapM f with
      | none => simp [h1, h2] at h
      | some us =>
        simp [h1, h2] at h
        subst h
        obtain ⟨hl, hg⟩ := mapM_get h2
        refine ⟨by simp [hl], fun j v hv => ?_⟩
        cases j with
        | zero => simp at hv; subst hv; exact ⟨i, rfl, h1⟩
        | succ j => simpa using hg j v (by simpa using hv)
theorem cells_get {w : World} {a : Addr} {n : Nat} {cs : List Value} (h : w.cells? 0 a n = some cs) : cs.length = n ∧ ∀ (j : Nat) (u : Value), cs[j]? = some u → w.cell? (a.add j) = some u := by
  unfold World.cells? at h
  rw [if_pos (Nat.zero_le _)] at h
  obtain ⟨hl, hg⟩ := mapM_get h
  refine ⟨by simpa using hl, fun j u hu => ?_⟩
  obtain ⟨i, hi, hf⟩ := hg j u hu
  have : i = j := by
    have hj : j < n := by have := (List.getElem?_eq_some_iff.1 hu).1; rw [hl] at this; simpa using this
    rw [List.getElem?_range hj] at hi
    exact (Option.some.inj hi).symm
  rw [this] at hf
  exact hf
theorem weights_all {H : Type} {d : DataW H} {k : Nat} : ∀ {l : List (DataW H)}, d ∈ l → k ∈ d.weights P e → k ∈ DataW.weightsAll P e l
  | [], h, _ => by cases h
  | x :: l, h, hk => by
    simp only [DataW.weightsAll, List.mem_append]
    rcases List.mem_cons.1 h with rfl | h
    · exact .inl hk
    · exact .inr (weights_all h hk)
theorem pick_list {Q : Nat → α → Prop} : ∀ n, (∀ i, i < n → ∃ y, Q i y) → ∃ l : List α, l.length = n ∧ ∀ i (h : i < l.length), Q i l[i]
  | 0, _ => ⟨[], rfl, fun i h => by cases h⟩
  | n + 1, h => by
    obtain ⟨l, hl, hq⟩ := pick_list n (fun i hi => h i (by omega))
    obtain ⟨y, hy⟩ := h n (by omega)
    refine ⟨l ++ [y], by simp [hl], fun i hi => ?_⟩
    by_cases hi' : i < l.length
    · rw [List.getElem_append_left hi']; exact hq i hi'
    · have : i = l.length := by simp at hi; omega
      subst this
      simp [hl, hy]
theorem opens_slice (g : Good sz R) (ho : Opens P e R) (hu : P.underlying t = some (.slice e)) (hc : P.cellsOf e = sz) (hpos : 0 < sz) (hb : 1 ≤ P.bytesOf e) : Opens P t (RS sz R) := by
  intro H enc W n cs x h hw
  rcases DataW.trod_slice hu h with ⟨rfl, _⟩ | ⟨a, len, cap, elems, rest, m, rfl, rfl, rfl, _, hl, _, hlen, hel, _, _⟩
  · exact ⟨[], none, 0, rfl, Nat.le_refl _, by simp, RRow.nil _⟩
  · simp only [DataW.weights, hu] at hw
    have hsz := hw _ (List.mem_cons_self ..)
    rw [List.length_map, List.length_map] at hsz
    have hbig : elems.length ≤ 140737488351232 := by
      unfold reachBytes at hsz
      have := Nat.mul_le_mul_left (elems.length + rest.length) hb
      omega
    rw [hc] at hel
    by_cases hl0 : len = 0
    · subst hl0
      exact ⟨[], some a, cap, rfl, by simp, by simp, RRow.nil _⟩
    have hs : a.spot = none := by
      have h0 := hel 0 (by omega)
      rw [List.getElem?_eq_getElem (by omega)] at h0
      cases hcs : W.cells? 0 (a.add (0 * sz)) sz with
      | none => rw [hcs] at h0; cases h0
      | some cs =>
        obtain ⟨hl2, hg⟩ := cells_get hcs
        have h9 := World.cell?_spot (hg 0 cs[0] (by simp))
        simpa [Addr.add] using h9
    obtain ⟨b, off, spot⟩ := a
    subst hs
    have key : ∀ i, i < len → ∃ y : α, ∃ cs, Now W b ∧ R (Now W) W y cs ∧ ∀ j u, cs[j]? = some u → W.cell? ⟨b, off + i * sz + j, none⟩ = some u := by
      intro i hi
      have h0 := hel i hi
      have he : elems[i]? = some (getElem elems i (by omega)) := List.getElem?_eq_getElem (by omega)
      rw [he] at h0
      cases hcs : W.cells? 0 (Addr.add ⟨b, off, none⟩ (i * sz)) sz with
      | none => rw [hcs] at h0; cases h0
      | some cs =>
        rw [hcs, Option.bind_some] at h0
        obtain ⟨y, hy⟩ := ho h0 (fun k hk => hw k (by
          refine List.mem_cons_of_mem _ (List.mem_append.2 (.inl ?_))
          exact weights_all (List.mem_map.2 ⟨_, List.getElem_mem (by omega), rfl⟩) hk))
        obtain ⟨hl2, hg⟩ := cells_get hcs
        have hc0 := hg 0 cs[0] (by simp)
        refine ⟨y, cs, ?_, hy, fun j u hu => ?_⟩
        · have := World.block_lt_of_cell? _ _ hc0
          rw [add_plain, add_plain] at this
          exact this
        · have := hg j u hu
          rw [add_plain, add_plain] at this
          exact this
    obtain ⟨l, hll, hq⟩ := pick_list len key
    refine ⟨l, some ⟨b, off, none⟩, cap, by rw [hll], by rw [hll]; exact hl, by rw [hll, ← hlen]; exact hbig, fun i hi => ?_⟩
    obtain ⟨cs, h1, h2, h3⟩ := hq i hi
    exact ⟨b, off, cs, rfl, h1, h2, h3⟩

/-- a struct's fields from the one at offset o on -/
def OpensL {γ : Type} (P : Program) (l : List Field) (o : Nat) (T : RepT γ) : Prop :=
  ∀ {H : Type} {enc : TypeId × Value → H} {W : World} {n : Nat} {cs : List Value} {xs : List (DataW H × List MemPlace)}, xs.length = l.length → (cs.length + o = (l.map fun f => P.cellsOf f.type).foldl (· + ·) o) →
    (∀ (i : Nat) (f : Field), l[i]? = some f → o ≤ f.offset ∧ DataW.trod enc P W 0 (fun _ => true) true n f.type ((cs.drop (f.offset - o)).take (P.cellsOf f.type)) = xs[i]?) →
    (∀ (i : Nat) (f : Field) (x : DataW H × List MemPlace), l[i]? = some f → xs[i]? = some x → ∀ k ∈ x.1.weights P f.type, k ≤ reachBytes) → ∃ y : γ, T (Now W) W y cs
def RNil : RepT Unit := fun _ _ _ cs => cs = []
theorem opensL_nil {o : Nat} : OpensL P [] o RNil := fun hx hl _ _ => by
  simp at hl
  exact ⟨(), hl⟩
theorem foldl_add (l : List Nat) (o : Nat) : l.foldl (· + ·) o = o + l.foldl (· + ·) 0 := by
  induction l generalizing o with
  | nil => simp
  | cons x l ih => rw [List.foldl_cons, List.foldl_cons, ih (o + x), ih (0 + x)]; omega
theorem opensL_cons {f : Field} {l : List Field} {o s1 : Nat} {S : RepT β} (g : Good s1 R) (ho : Opens P f.type R) (hs : P.cellsOf f.type = s1) (hof : f.offset = o) (hall : ∀ f' ∈ l, o + s1 ≤ f'.offset) (hl : OpensL P l (o + s1) S) : OpensL P (f :: l) o (RP R S) := by
  intro H enc W n cs xs hx hlen hel hw
  rw [List.map_cons, List.foldl_cons, foldl_add, hs] at hlen
  match xs, hx with
  | x :: xs, hx =>
    have h0 := (hel 0 f rfl).2
    rw [hof, Nat.sub_self, List.drop_zero, hs] at h0
    obtain ⟨y, hy⟩ := ho h0 (hw 0 f x rfl rfl)
    obtain ⟨z, hz⟩ := hl (cs := cs.drop s1) (xs := xs) (n := n) (enc := enc) (by simpa using hx) (by rw [List.length_drop, foldl_add]; omega) (fun i f' hf => by
      have h1 := hel (i + 1) f' (by simpa using hf)
      have h2 := hall f' (List.mem_of_getElem? hf)
      refine ⟨h2, ?_⟩
      have h3 := h1.2
      rw [List.drop_drop, show s1 + (f'.offset - (o + s1)) = f'.offset - o by omega]
      simpa using h3) (fun i f' x' hf hx' => hw (i + 1) f' x' (by simpa using hf) (by simpa using hx'))
    exact ⟨(y, z), cs.take s1, cs.drop s1, (List.take_append_drop ..).symm, hy, hz⟩
theorem opens_struct {fs : Array Field} {γ : Type} {T : RepT γ} (hu : P.underlying t = some (.struct fs)) (hc : P.cellsOf t = (fs.toList.map fun f => P.cellsOf f.type).foldl (· + ·) 0) (hT : OpensL P fs.toList 0 T) : Opens P t T := by
  intro H enc W n cs x h hw
  obtain ⟨xs, m, rfl, rfl, hl, hlen, hf⟩ := DataW.trod_struct hu h
  refine hT (xs := xs) (n := m) (enc := enc) (by simpa using hlen) (by rw [hl, hc]; rfl) (fun i f hi => ⟨Nat.zero_le _, by simpa using hf i f (by simpa using hi)⟩) (fun i f x hi hx k hk => hw k ?_)
  simp only [DataW.weights, hu]
  exact DataW.weights_mem_each (by rw [List.getElem?_map, hi]; rfl) (by rw [List.getElem?_map, hx]; rfl) k hk
theorem opens_map {γ : Type} {T : RepT γ} {f : α → γ} (h : Opens P t R) (hm : ∀ {F w x cs}, R F w x cs → T F w (f x) cs) : Opens P t T := fun h1 h2 => by
  obtain ⟨y, hy⟩ := h h1 h2
  exact ⟨f y, hm hy⟩
theorem sized {H : Type} {ts : List TypeId} {ds : List (DataW H)} (h : (DataW.weightsEach P ts ds).all (· ≤ reachBytes) = true) {j : Nat} {t : TypeId} {d : DataW H} (ht : ts[j]? = some t) (hd : ds[j]? = some d) : ∀ k ∈ d.weights P t, k ≤ reachBytes := fun k hk => by
  have := List.all_eq_true.1 h _ (DataW.weights_mem_each ht hd k hk)
  simpa using this
section
variable {H : Type} {enc : TypeId × Value → H} {W : World} {base : Nat} {v : Value} {d : DataW H} {ps : List MemPlace}
theorem open_struct {fs : Array Field} (ho : Opens P t R) (hu : P.underlying t = some (.struct fs)) (hok : Value.okWide P W .any base t v) (h : DataW.Trod enc P W 0 (fun _ => true) true t v d ps) (hw : ∀ k ∈ d.weights P t, k ≤ reachBytes) :
    ∃ x cs, v = .agg cs ∧ R (Now W) W x cs.toList := by
  simp only [Value.okWide, hu] at hok
  obtain ⟨cs, rfl, _⟩ := hok
  obtain ⟨fuel, hf⟩ := h
  obtain ⟨x, hx⟩ := ho hf hw
  exact ⟨x, cs, rfl, hx⟩
end
end
end Go.Proofs.Ytlnkmaejiceloaa


namespace Go.Proofs.Ytlnkmaejiceloaa
set_option linter.unusedSimpArgs false
open Go.ChangeShapes Go.WideShapes Go.ChangeAt Go.RowKit
set_option linter.unusedVariables false
abbrev ftB (F : Nat → Prop) : Ft := ⟨fun b _ => F b, F⟩
/-- a datum by its data -/
def RE {α : Type} (enc : α → List D) (ok : α → Prop) : RepT α := fun F w x cs => ok x ∧ RDL (ftB F) w (enc x) cs ∧ ∀ u ∈ cs, u.oneCell' = true
section
variable {α β : Type} {P : Program} {t e : TypeId} {sz : Nat} {enc : α → List D} {ok : α → Prop} {enc2 : β → List D} {ok2 : β → Prop} {F : Nat → Prop} {w : World}
theorem good_re (hl : ∀ x, (enc x).length = sz) : Good sz (RE enc ok) :=
  ⟨fun {F F' w w'} hF hk {x cs} h => ⟨h.1, RDL.mono (F := ftB F) (G := ftB F') ⟨fun b o hb => hF b hb, fun b hb => hF b hb⟩ (Kp.of_blocks (F := ftB F) (fun x o hx => hk x hx) (fun x hx => hk x hx)) _ _ h.2.1, h.2.2⟩,
   fun {F w x cs} h => by rw [RDL.len h.2.1, hl], fun {F w x cs} h => h.2.2⟩
theorem ore_int {k : IntKind} (hu : P.underlying t = some (.int k)) : Opens P t (RE (fun n : Int => [.c (.int k n)]) (fun n => (Lit.int k n).wf = true)) :=
  opens_map (f := fun n : Int => n) (opens_int hu) fun {F w x cs} h => ⟨h.2, by rw [h.1]; exact ⟨_, _, rfl, rfl, rfl⟩, by rw [h.1]; simp [Value.oneCell']⟩
theorem ore_bool (hu : P.underlying t = some .bool) : Opens P t (RE (fun b : Bool => [.c (.bool b)]) (fun _ => True)) :=
  opens_map (f := fun b : Bool => b) (opens_bool hu) fun {F w x cs} h => ⟨trivial, by rw [h]; exact ⟨_, _, rfl, rfl, rfl⟩, by rw [h]; simp [Value.oneCell']⟩
theorem rep_re {p : α × β} {cs : List Value} (h : RP (RE enc ok) (RE enc2 ok2) F w p cs) : RE (fun p : α × β => enc p.1 ++ enc2 p.2) (fun p => ok p.1 ∧ ok2 p.2) F w p cs := by
  obtain ⟨c1, c2, rfl, h1, h2⟩ := h
  refine ⟨⟨h1.1, h2.1⟩, RDL.append h1.2.1 h2.2.1, fun u hu => ?_⟩
  rcases List.mem_append.1 hu with hu | hu
  · exact h1.2.2 u hu
  · exact h2.2.2 u hu
theorem opensL_map {γ δ : Type} {l : List Field} {o : Nat} {T : RepT γ} {U : RepT δ} {f : γ → δ} (h : OpensL P l o T) (hm : ∀ {F w x cs}, T F w x cs → U F w (f x) cs) : OpensL P l o U := fun h1 h2 h3 h4 => by
  obtain ⟨y, hy⟩ := h h1 h2 h3 h4
  exact ⟨f y, hm hy⟩
theorem oreL_nil {o : Nat} : OpensL P [] o (RE (fun _ : Unit => []) (fun _ => True)) :=
  opensL_map (f := fun u : Unit => u) opensL_nil fun {F w x cs} h => ⟨trivial, h, by rw [h]; simp⟩
theorem oreL_cons {f : Field} {l : List Field} {o s1 : Nat} (hl1 : ∀ x, (enc x).length = s1) (ho : Opens P f.type (RE enc ok)) (hs : P.cellsOf f.type = s1) (hof : f.offset = o) (hall : ∀ f' ∈ l, o + s1 ≤ f'.offset) (hl : OpensL P l (o + s1) (RE enc2 ok2)) :
    OpensL P (f :: l) o (RE (fun p : α × β => enc p.1 ++ enc2 p.2) (fun p => ok p.1 ∧ ok2 p.2)) :=
  opensL_map (f := fun p : α × β => p) (opensL_cons (good_re hl1) ho hs hof hall hl) fun {F w x cs} h => rep_re h
/-- a field of one cell -/
theorem oreL_1 {f : Field} {l : List Field} {o : Nat} (ho : Opens P f.type (RE enc ok)) (hl1 : ∀ x, (enc x).length = 1) (hs : P.cellsOf f.type = 1) (hof : f.offset = o) (hall : ∀ f' ∈ l, o + 1 ≤ f'.offset) (hl : OpensL P l (o + 1) (RE enc2 ok2)) :
    OpensL P (f :: l) o (RE (fun p : α × β => enc p.1 ++ enc2 p.2) (fun p => ok p.1 ∧ ok2 p.2)) := oreL_cons hl1 ho hs hof hall hl
theorem ore_map {f : α → β} (h : Opens P t (RE enc ok)) (he : ∀ x, enc2 (f x) = enc x) (hok : ∀ x, ok x → ok2 (f x)) : Opens P t (RE enc2 ok2) :=
  opens_map (f := f) h fun {F w x cs} h => ⟨hok _ h.1, by rw [he]; exact h.2.1, h.2.2⟩
theorem rr_of {l : List α} {a : Option Addr} (hl : ∀ x, (enc x).length = sz) (h : RRow sz (RE enc ok) F w l a) : RR (ftB F) w sz a (l.map enc) 0 ∧ ∀ x ∈ l, ok x := by
  have key : ∀ (m : List α) (n : Nat), (∀ i (hi : i < m.length), ∃ b off cs, a = some ⟨b, off, none⟩ ∧ F b ∧ RE enc ok F w m[i] cs ∧ ∀ j u, cs[j]? = some u → w.cell? ⟨b, off + (n + i) * sz + j, none⟩ = some u) → RR (ftB F) w sz a (m.map enc) (n * sz) ∧ ∀ x ∈ m, ok x := by
    intro m
    induction m with
    | nil => intro n _; exact ⟨trivial, by simp⟩
    | cons x m ih =>
      intro n h
      obtain ⟨b, off, cs, h1, h2, h3, h4⟩ := h 0 (by simp)
      have h3' : RE enc ok F w x cs := h3
      obtain ⟨k1, k2⟩ := ih (n + 1) (fun i hi => by
        obtain ⟨b', off', cs', g1, g2, g3, g4⟩ := h (i + 1) (by simpa using hi)
        exact ⟨b', off', cs', g1, g2, g3, fun j u hj => by have := g4 j u hj; rw [show n + 1 + i = n + (i + 1) by omega]; exact this⟩)
      refine ⟨⟨⟨b, off, cs, h1, h3'.2.1, by rw [RDL.len h3'.2.1, hl], h3'.2.2, fun j u hj => ⟨h2, ?_⟩⟩, ?_⟩, ?_⟩
      · have := h4 j u hj
        simpa using this
      · rw [Nat.add_mul, Nat.one_mul] at k1
        exact k1
      · intro y hy
        rcases List.mem_cons.1 hy with rfl | hy
        · exact h3'.1
        · exact k2 y hy
  have := key l 0 (fun i hi => by
    obtain ⟨b, off, cs, h1, h2, h3, h4⟩ := h i hi
    exact ⟨b, off, cs, h1, h2, h3, fun j u hj => by rw [Nat.zero_add]; exact h4 j u hj⟩)
  simpa using this
theorem ore_slice (d0 : List D) (hl : ∀ x, (enc x).length = sz) (ho : Opens P e (RE enc ok)) (hu : P.underlying t = some (.slice e)) (hc : P.cellsOf e = sz) (hpos : 0 < sz) (hb : 1 ≤ P.bytesOf e) :
    Opens P t (RE (fun l : List α => [.sl sz d0 (l.map enc)]) (fun l => l.length ≤ 140737488351232 ∧ ∀ x ∈ l, ok x)) :=
  opens_map (f := fun l : List α => l) (opens_slice (good_re hl) ho hu hc hpos hb) fun {F w x cs} h => by
    obtain ⟨a, cap, rfl, h1, h2, h3⟩ := h
    obtain ⟨k1, k2⟩ := rr_of hl h3
    refine ⟨⟨h2, k2⟩, ⟨_, _, rfl, ⟨a, cap, by rw [List.length_map], by simpa using h1, by simpa using h2, k1⟩, rfl⟩, by simp [Value.oneCell']⟩
/-- as a law's arguments -/
abbrev ftN (w : World) : Ft := ftB (Now w)
theorem ftN_lt (w : World) : (ftN w).lt w := ⟨fun _ _ h => h, fun _ h => h⟩
variable {H : Type} {en : TypeId × Value → H} {W : World} {base : Nat} {v : Value} {d : DataW H} {ps : List MemPlace}
theorem arg_int {k : IntKind} (hu : P.underlying t = some (.int k)) (hok : Value.okWide P W .any base t v) (h : DataW.Trod en P W 0 (fun _ => true) true t v d ps) : ∃ n : Int, (Lit.int k n).wf = true ∧ RA (ftN W) W (.one (.c (.int k n))) v := by
  obtain ⟨z, rfl, rfl, rfl, wz⟩ := open_int hu hok h
  exact ⟨z, wz, rfl⟩
theorem arg_row {dd0 : List D} {ok' : List α → Prop} (ho : Opens P t (RE (fun l : List α => [.sl sz dd0 (l.map enc)]) ok')) (hu : P.underlying t = some (.slice e)) (hok : Value.okWide P W .any base t v) (h : DataW.Trod en P W 0 (fun _ => true) true t v d ps) (hw : ∀ k ∈ d.weights P t, k ≤ reachBytes) :
    ∃ l, ok' l ∧ RA (ftN W) W (.one (.sl sz dd0 (l.map enc))) v := by
  obtain ⟨a0, len, cp, rfl⟩ := okWide_slice hu hok
  obtain ⟨fuel, hf⟩ := h
  obtain ⟨l, h1, h2, h3⟩ := ho hf hw
  obtain ⟨u, r, e1, h4, h5⟩ := h2
  simp [Value.cells] at e1
  exact ⟨l, h1, by rw [e1.1]; exact h4⟩
theorem arg_struct {fs : Array Field} (ho : Opens P t (RE enc ok)) (hu : P.underlying t = some (.struct fs)) (hok : Value.okWide P W .any base t v) (h : DataW.Trod en P W 0 (fun _ => true) true t v d ps) (hw : ∀ k ∈ d.weights P t, k ≤ reachBytes) :
    ∃ x, ok x ∧ RA (ftN W) W (.agg (enc x)) v := by
  obtain ⟨x, cs, rfl, h1, h2, h3⟩ := open_struct ho hu hok h hw
  exact ⟨x, h1, cs.toList, by simp, h2, h3⟩
end
end Go.Proofs.Ytlnkmaejiceloaa


namespace Go.Proofs.Ytlnkmaejiceloaa
set_option linter.unusedSimpArgs false
set_option linter.unusedVariables false
open Go.ChangeShapes Go.WideShapes Go.ChangeAt Go.RowKit
def OkI (l : List Int) : Prop := l.length ≤ 140737488351232 ∧ ∀ x ∈ l, -9223372036854775808 ≤ x ∧ x ≤ 9223372036854775807
theorem wf_int64 {n : Int} (h : (Lit.int .i64 n).wf = true) : -9223372036854775808 ≤ n ∧ n ≤ 9223372036854775807 := by
  exact wf_i64 h
theorem opens_int1 : Opens Try.prog 3 (RE intD (fun n => -9223372036854775808 ≤ n ∧ n ≤ 9223372036854775807)) :=
  ore_map (f := fun n : Int => n) (ore_int Try.underlying3) (by intro x; rfl) (fun x h => wf_int64 h)
theorem opens_ints : Opens Try.prog 26 (RE (fun l : List Int => [.sl 1 (intD 0) (l.map intD)]) OkI) :=
  ore_slice (sz := 1) (intD 0) (by intro x; rfl) opens_int1 Try.underlying26 (by kernel_rfl) (by decide) (Nat.le_of_ble_eq_true (by kernel_rfl))
theorem opens_intss : Opens Try.prog 25 (RE (fun l : List (List Int) => [.sl 1 [.sl 1 (intD 0) []] (l.map fun x => [.sl 1 (intD 0) (x.map intD)])]) (fun l => l.length ≤ 140737488351232 ∧ ∀ x ∈ l, OkI x)) :=
  ore_slice (sz := 1) [.sl 1 (intD 0) []] (by intro x; rfl) opens_ints Try.underlying25 (by kernel_rfl) (by decide) (Nat.le_of_ble_eq_true (by kernel_rfl))
theorem opens_lot : Opens Try.prog 50 (RE lotD OkL) :=
  ore_map (f := fun x : List Int × Bool × List Int × Unit => (⟨x.1, x.2.1, x.2.2.1⟩ : LotP))
    (opens_struct Try.underlying50 (by kernel_rfl)
      (oreL_1 opens_ints (by intro x; rfl) (by kernel_rfl) rfl (by simp) (oreL_1 (ore_bool Try.underlying4) (by intro x; rfl) (by kernel_rfl) rfl (by simp)
      (oreL_1 opens_ints (by intro x; rfl) (by kernel_rfl) rfl (by simp) oreL_nil))))
    (by intro x; rfl) (by rintro x ⟨h1, h2, h3, _⟩; exact ⟨h1.2, h3.2, h1.1, h3.1⟩)
theorem opens_lots : Opens Try.prog 22 (RE (fun l : List LotP => [.sl 3 (lotD default) (l.map lotD)]) (fun l => l.length ≤ 140737488351232 ∧ ∀ x ∈ l, OkL x)) :=
  ore_slice (sz := 3) (lotD default) (by intro x; rfl) opens_lot Try.underlying22 (by kernel_rfl) (by decide) (Nat.le_of_ble_eq_true (by kernel_rfl))
theorem opens_flow : Opens Try.prog 24 (RE flowD OkF) :=
  ore_map (f := fun x : Int × List LotP × Unit => (⟨x.1, x.2.1⟩ : FlowP))
    (opens_struct Try.underlying24 (by kernel_rfl)
      (oreL_1 (ore_int Try.underlying3) (by intro x; rfl) (by kernel_rfl) rfl (by simp) (oreL_1 opens_lots (by intro x; rfl) (by kernel_rfl) rfl (by simp) oreL_nil)))
    (by intro x; rfl) (by rintro x ⟨h1, h2, _⟩; exact ⟨wf_int64 h1, h2.1, h2.2⟩)
end Go.Proofs.Ytlnkmaejiceloaa


namespace Go.Proofs.Ytlnkmaejiceloaa
set_option linter.unusedSimpArgs false
set_option linter.unusedVariables false
open Go.RowKit
set_option maxRecDepth 100000
set_option maxHeartbeats 4000000
theorem okV_of {f : FlowP} {lines : List (List Int)} (hf : OkF f) (hl : lines.length ≤ 140737488351232 ∧ ∀ x ∈ lines, OkI x) : OkV f lines := ⟨hf, hl.1, hl.2⟩
end Go.Proofs.Ytlnkmaejiceloaa


namespace Go.Proofs.Ytlnkmaejiceloaa
set_option linter.unusedSimpArgs false
set_option linter.unusedVariables false
open Go.RowKit
def plOK (x : LotP) : Prop := x.perm.length = x.inn.length ∧ x.perm.Nodup ∧ ∀ p ∈ x.perm, 0 ≤ p ∧ p < (x.inn.length : Int)
/-- g knows at least what f knows -/
structure FinF (f g : FlowP) : Prop where
  s : g.senders = f.senders
  l : g.lots.length = f.lots.length
  lots : ∀ k, k < f.lots.length → g.lots.getD k default = f.lots.getD k default ∨ ((f.lots.getD k default).known = false ∧ (g.lots.getD k default).known = true ∧ (g.lots.getD k default).inn = (f.lots.getD k default).inn ∧ plOK (g.lots.getD k default))
section
variable {f g : FlowP}
theorem FinF.inn (h : FinF f g) {k : Nat} (hk : k < f.lots.length) : (g.lots.getD k default).inn = (f.lots.getD k default).inn := by
  rcases h.lots k hk with e | ⟨_, _, e, _⟩
  · rw [e]
  · exact e
theorem FinF.inns (h : FinF f g) : ∀ k, k ≤ f.lots.length → (g.lots.take k).map (·.inn) = (f.lots.take k).map (·.inn) := by
  intro k hk
  refine List.ext_getElem? fun i => ?_
  rw [List.getElem?_map, List.getElem?_map, List.getElem?_take, List.getElem?_take]
  by_cases hi : i < k
  · rw [if_pos hi, if_pos hi]
    have e1 : g.lots[i]? = some (g.lots.getD i default) := by rw [List.getD, List.getElem?_eq_getElem (by rw [h.l]; omega)]; rfl
    have e2 : f.lots[i]? = some (f.lots.getD i default) := by rw [List.getD, List.getElem?_eq_getElem (by omega)]; rfl
    rw [e1, e2, Option.map_some, Option.map_some, h.inn (by omega)]
  · rw [if_neg hi, if_neg hi]
theorem FinF.bef (h : FinF f g) {k : Nat} (hk : k ≤ f.lots.length) : befF g k = befF f k := by
  unfold befF
  have := congrArg (fun l : List (List Int) => (l.map List.length).sum) (h.inns k hk)
  simp only [List.map_map] at this
  have e : (List.length ∘ fun x : LotP => x.inn) = fun x : LotP => x.inn.length := rfl
  rw [e] at this
  rw [h.s, this]
theorem FinF.gone (h : FinF f g) {k : Nat} (hk : k ≤ f.lots.length) : goneF g k = goneF f k := by
  unfold goneF
  rw [List.flatMap_def, List.flatMap_def, h.inns k hk]
theorem FinF.check (h : FinF f g) (hc : checkF f = 0) : checkF g = 0 := by
  obtain ⟨z1, z2, z3, z4, z5⟩ := checkF_zero hc
  unfold checkF
  rw [h.l, h.bef (Nat.le_refl _), h.s, if_neg (by omega), if_neg (by omega), if_pos]
  unfold validF
  rw [h.l, List.all_eq_true]
  intro i hi
  have hil : i < f.lots.length := by simpa using hi
  have hg := goodL_at hc hil
  unfold okAt
  rw [h.bef (by omega), h.gone (by omega), goodL_iff]
  rcases h.lots i hil with e | ⟨_, e2, e3, e4⟩
  · rw [e]; exact hg
  · exact ⟨by rw [e3]; exact hg.ne, by rw [e3]; exact hg.nd, by rw [e3]; exact hg.fr, fun _ => e4, fun h => by rw [e2] at h; simp at h⟩
theorem FinF.sp (h : FinF f g) (s : Int) : ∀ k, k ≤ f.lots.length → ∀ m, m ∈ spL g s k → m ∈ spL f s k
  | 0, _, m, hm => hm
  | k + 1, hk, m, hm => by
    have ih := h.sp s k (by omega)
    rw [mem_spL_succ] at hm ⊢
    rcases hm with hm | ⟨j, h1, h2, h3⟩
    · exact .inl (ih m hm)
    · rw [h.inn (by omega)] at h1
      rw [h.bef (by omega)] at h2
      refine .inr ⟨j, h1, h2, ?_⟩
      rw [canB_iff] at h3 ⊢
      obtain ⟨i, i1, i2, i3⟩ := h3
      rw [h.inn (by omega)] at i1 i2
      refine ⟨i, i1, ih _ i2, ?_⟩
      rcases h.lots k (by omega) with e | ⟨e, _⟩
      · rw [e] at i3; exact i3
      · exact .inl e
end
end Go.Proofs.Ytlnkmaejiceloaa


namespace Go.Proofs.Ytlnkmaejiceloaa
set_option linter.unusedSimpArgs false
set_option linter.unusedVariables false
open Go.RowKit
theorem crowd_endS {f : FlowP} {lines : List (List Int)} {x : List Int} {s : Int} (hV : errV f lines x = 0) (hs : 0 ≤ s ∧ s < f.senders) : crowdF f lines x s = (endS (vF f lines x) s).length := by
  have hvR : viewR f lines x = vF f lines x := by rw [viewR, if_pos hV]
  have hEe : errE (vF f lines x) s = 0 := by
    rw [errE, if_neg (by simpa using view_check (errV_zero hV).1), if_neg]
    show ¬ (s < 0 ∨ f.senders ≤ s)
    omega
  unfold crowdF
  rw [hvR, endR, if_pos hEe]
/-- the offices of a set are a coalition -/
theorem mem_setL {b n : Nat} {z : Int} : z ∈ setL b n ↔ ∃ i : Nat, z = i ∧ i < n ∧ b.testBit i = true := by
  unfold setL
  simp only [List.mem_map, List.mem_filter, List.mem_range]
  constructor
  · rintro ⟨i, ⟨h1, h2⟩, rfl⟩; exact ⟨i, rfl, h1, h2⟩
  · rintro ⟨i, rfl, h1, h2⟩; exact ⟨i, ⟨h1, h2⟩, rfl⟩
theorem setL_co (b n : Nat) : isCo n (setL b n) := by
  refine ⟨?_, fun x hx => ?_⟩
  · unfold setL
    rw [List.pairwise_map]
    exact List.Pairwise.imp (fun {a b} h => by omega) ((List.pairwise_lt_range (n := n)).sublist List.filter_sublist)
  · obtain ⟨i, rfl, h1, _⟩ := mem_setL.1 hx
    omega
/-- right, and small -/
def rightB (f : FlowP) (lines : List (List Int)) (o s : Int) : Bool := fewQ f lines o && (checkF f == 0) && knownF f && linesB lines f.lots.length && decide (0 ≤ s) && decide (s < f.senders) && decide (0 ≤ o) && decide (o ≤ 5)
theorem rightB_iff {f : FlowP} {lines : List (List Int)} {o s : Int} : rightB f lines o s = true ↔ fewQ f lines o = true ∧ checkF f = 0 ∧ knownF f = true ∧ linesB lines f.lots.length = true ∧ (0 ≤ s ∧ s < f.senders) ∧ 0 ≤ o ∧ o ≤ 5 := by
  unfold rightB
  simp only [Bool.and_eq_true, decide_eq_true_eq, beq_iff_eq, and_assoc]
theorem right_errV {f : FlowP} {lines : List (List Int)} {o s : Int} (h : rightB f lines o s = true) {x : List Int} {n : Nat} (hx : isCo n x) (hn : n ≤ 24) : errV f lines x = 0 := by
  obtain ⟨_, h1, h2, h3, _⟩ := rightB_iff.1 h
  exact (view_ok h1 h2 h3 (hx.coal hn)).1
theorem right_errB {f : FlowP} {lines : List (List Int)} {o s : Int} (h : rightB f lines o s = true) {x : List Int} {n : Nat} (hx : isCo n x) (hn : n ≤ 24) (need : Int) : errB f lines x s = 0 ∧ brkR f lines x s need = brkB f lines x s need := by
  have hv := right_errV h hx hn
  obtain ⟨_, _, _, _, h4, _⟩ := rightB_iff.1 h
  have he : errB f lines x s = 0 := by rw [errB, if_neg (by simpa using hv), if_neg (by omega)]
  exact ⟨he, by rw [brkR, if_pos he]⟩
end Go.Proofs.Ytlnkmaejiceloaa

