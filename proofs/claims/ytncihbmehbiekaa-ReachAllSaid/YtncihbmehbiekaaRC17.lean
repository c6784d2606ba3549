import Derived.Test.YtncihbmehbiekaaRC16
import Derived.Test.YtncihbmehbiekaaRC6
namespace Go.Proofs.Ytncihbmehbiekaa
set_option linter.unusedSimpArgs false
set_option linter.unusedVariables false
open Go.RowKit
set_option maxRecDepth 100000
set_option maxHeartbeats 4000000
def preR (R : List (List Int)) (i : Nat) (z : Int) : List Int := ((List.range i).filter fun s : Nat => decide (z ∈ R.getD s [])).map fun s : Nat => (s : Int)
def tgtJ (R : List (List Int)) (i j : Nat) (z : Int) : List Int := preR R i z ++ if z ∈ (R.getD i []).take j then [(i : Int)] else []
theorem preR_len (R : List (List Int)) (i : Nat) (z : Int) : (preR R i z).length ≤ i := by
  unfold preR
  rw [List.length_map]
  exact Nat.le_trans (List.length_filter_le _ _) (by simp)
theorem tgtJ_len (R : List (List Int)) (i j : Nat) (z : Int) : (tgtJ R i j z).length ≤ i + 1 := by
  unfold tgtJ
  have := preR_len R i z
  rw [List.length_append]
  split <;> simp <;> omega
theorem tgtJ_zero (R : List (List Int)) (i : Nat) (z : Int) : tgtJ R i 0 z = preR R i z := by simp [tgtJ]
theorem tgtJ_succ {R : List (List Int)} {i j : Nat} (hj : j < (R.getD i []).length) (hn : (R.getD i []).Nodup) (z : Int) : tgtJ R i (j + 1) z = if z = (R.getD i []).getD j 0 then tgtJ R i j ((R.getD i []).getD j 0) ++ [(i : Int)] else tgtJ R i j z := by
  have hd := (nodup_take hj).1 (hn.sublist (List.take_sublist _ _))
  have e : (R.getD i []).getD j 0 = (R.getD i [])[j] := by rw [List.getD_eq_getElem?_getD, List.getElem?_eq_getElem hj]; rfl
  unfold tgtJ
  rw [List.take_succ_eq_append_getElem hj]
  obtain ⟨r, hr⟩ : ∃ r, r = R.getD i [] := ⟨_, rfl⟩
  simp only [← hr] at hj hn hd e ⊢
  by_cases hz : z = r.getD j 0
  · rw [if_pos hz, if_neg hd.2, List.append_nil, if_pos (List.mem_append.2 (.inr (by rw [hz, e]; exact List.mem_singleton.2 rfl))), hz]
  · rw [if_neg hz]
    congr 1
    have : z ∈ r.take j ++ [r[j]] ↔ z ∈ r.take j := by
      rw [List.mem_append, List.mem_singleton, ← e]
      exact ⟨fun h => h.resolve_right hz, Or.inl⟩
    simp only [this]
theorem tgtJ_all (R : List (List Int)) (i : Nat) (z : Int) : tgtJ R i (R.getD i []).length z = preR R (i + 1) z := by
  unfold tgtJ preR
  rw [List.take_length, List.range_succ, List.filter_append, List.map_append]
  congr 1
  by_cases h : z ∈ R.getD i []
  · rw [if_pos h, List.filter_cons, if_pos (decide_eq_true h)]; rfl
  · rw [if_neg h, List.filter_cons, if_neg (by rw [decide_eq_false h]; simp)]; rfl
theorem matA_get {f : FlowP} {N s : Nat} (h : s < N) : (matA f N).getD s [] = endS f s := by
  unfold matA
  rw [List.getD, List.getElem?_map, List.getElem?_range h]
  rfl
theorem preR_end {f : FlowP} {N : Nat} {t : Int} (ht : t ∈ endsF f) : preR (matA f N) N t = sndS f t N := by
  unfold preR sndS
  congr 1
  refine List.filter_congr fun s hs => ?_
  have hs' : s < N := by simpa using hs
  rw [matA_get hs', decide_eq_decide, endS, List.mem_filter, decide_eq_true_eq]
  exact ⟨fun h => h.2, fun h => ⟨ht, h⟩⟩
theorem wsenders_spec (f : FlowP) (t : Int) (hf : OkF f) : Spec Try.prog 14 [.agg (flowD f), aI t] (.rt [aIs (sndR f t), aI (errS f t)]) := by
  refine spec_of T_ok Try.func14 (by dsimp only [Try.f14]) rfl rfl (by simp) fun w F => ?_
  have hE := fends_spec f hf
  by_cases hc : checkF f = 0
  rotate_left
  · have hd : (checkF f != 0) = true := by simpa using hc
    repeat' (first
      | (with_reducible refine aw_seq ?_)
      | ((with_reducible refine twoG_intro ?_ ?_) <;> intro hTw <;> first | (exact Bool.noConfusion hTw) | ((try simp only [hTw, Bool.not_true, Bool.not_false, Bool.true_and, Bool.false_and, Bool.and_true, Bool.and_false, Bool.true_or, Bool.false_or, Bool.or_true, Bool.or_false]); (first | (guard_hyp hTw : true = true; clear hTw) | (guard_hyp hTw : false = false; clear hTw) | (revert hTw; intro _))))
      | ((with_reducible refine two_intro ?_ ?_) <;> intro hTw <;> first | (exact Bool.noConfusion hTw) | ((first | (guard_hyp hTw : true = true; clear hTw) | (guard_hyp hTw : false = false; clear hTw) | (revert hTw; intro _))))
      | ((with_reducible refine And.intro ?_ ?_); (focus (first | exact keyOk_int_ | omega | rfl | decide | grind)))
      | (with_reducible refine aw_block ?_)
      | (with_reducible refine aw_scope ?_)
      | ((first
          | ((with_reducible refine aw_regionA T_ok ?_ ?_); (focus kernel_rfl))
          | ((with_reducible refine aw_drawnA T_ok ?_ ?_ ?_ ?_); (focus kernel_rfl); (focus kernel_rfl); (focus (decide +kernel)))
          | ((with_reducible refine aw_drawnF T_ok ?_ ?_ ?_ ?_); (focus kernel_rfl); (focus kernel_rfl); (focus (decide +kernel)))
          | ((with_reducible refine callK_intro (hE) (by with_unfolding_all rfl) ?_ ?_); (focus kernel_rfl))
          | ((with_reducible refine callI_spec (hE) (by with_unfolding_all rfl) ?_ ?_ ?_); (focus kernel_rfl); (focus kernel_rfl))
          | (with_reducible refine aw_label ?_)
          | ((with_reducible refine aw_rfM ?_ ?_); (focus kernel_rfl))
          | (with_reducible refine aw_skip ?_)
          | (with_reducible refine aw_exit ?_)
          | ((with_reducible refine aw_condM ?_ ?_); (focus kernel_rfl))
          | (with_reducible refine aw_ret ?_)
        ); simp only [↓avP, avQ, if_true, if_false, forall_const, beq_self_eq_true, eq_self, ne_eq, implies_true, reduceIte, Nat.reduceEqDiff, Nat.reduceAdd, Nat.reduceSub, Int.reduceToNat, Nat.reduceLeDiff, Nat.reduceLT, reduceCtorEq, Int.reduceEq, retQ, retL, resV, RetV, RetOk, SubL, intD_B, lotD_B, flowD_B, snocI, snocL, issD_get, upM_tV, ty_3, ty_27, ty_4, ty_24, ty_40, ty_22, ty_31, ty_60, hd]; try simp (disch := omega) only [av_w, av_t1, av_tp, Int.toNat_natCast]))
    have : errS f t = checkF f := by rw [errS, if_pos hc]
    rw [sndR, this, if_neg hc]
    exact ⟨Sub.nil _ _, Sub.refl _⟩
  have hEl := endsF_le hc
  rw [hc] at hE
  rw [show endsR f = endsF f by rw [endsR, if_pos hc]] at hE
  have hCo := contains_spec (endsF f) t (by omega)
  by_cases hs : t ∈ endsF f
  rotate_left
  · have hd : decide (t ∈ endsF f) = false := decide_eq_false hs
    repeat' (first
      | (with_reducible refine aw_seq ?_)
      | ((with_reducible refine twoG_intro ?_ ?_) <;> intro hTw <;> first | (exact Bool.noConfusion hTw) | ((try simp only [hTw, Bool.not_true, Bool.not_false, Bool.true_and, Bool.false_and, Bool.and_true, Bool.and_false, Bool.true_or, Bool.false_or, Bool.or_true, Bool.or_false]); (first | (guard_hyp hTw : true = true; clear hTw) | (guard_hyp hTw : false = false; clear hTw) | (revert hTw; intro _))))
      | ((with_reducible refine two_intro ?_ ?_) <;> intro hTw <;> first | (exact Bool.noConfusion hTw) | ((first | (guard_hyp hTw : true = true; clear hTw) | (guard_hyp hTw : false = false; clear hTw) | (revert hTw; intro _))))
      | ((with_reducible refine And.intro ?_ ?_); (focus (first | exact keyOk_int_ | omega | rfl | decide | grind)))
      | (with_reducible refine aw_block ?_)
      | (with_reducible refine aw_scope ?_)
      | ((first
          | ((with_reducible refine aw_regionA T_ok ?_ ?_); (focus kernel_rfl))
          | ((with_reducible refine aw_drawnA T_ok ?_ ?_ ?_ ?_); (focus kernel_rfl); (focus kernel_rfl); (focus (decide +kernel)))
          | ((with_reducible refine aw_drawnF T_ok ?_ ?_ ?_ ?_); (focus kernel_rfl); (focus kernel_rfl); (focus (decide +kernel)))
          | ((with_reducible refine callK_intro (hE) (by with_unfolding_all rfl) ?_ ?_); (focus kernel_rfl))
          | ((with_reducible refine callI_spec (hE) (by with_unfolding_all rfl) ?_ ?_ ?_); (focus kernel_rfl); (focus kernel_rfl))
          | ((with_reducible refine callK_intro (hCo) (by with_unfolding_all rfl) ?_ ?_); (focus kernel_rfl))
          | ((with_reducible refine callI_spec (hCo) (by with_unfolding_all rfl) ?_ ?_ ?_); (focus kernel_rfl); (focus kernel_rfl))
          | (with_reducible refine aw_label ?_)
          | ((with_reducible refine aw_rfM ?_ ?_); (focus kernel_rfl))
          | (with_reducible refine aw_skip ?_)
          | (with_reducible refine aw_exit ?_)
          | ((with_reducible refine aw_condM ?_ ?_); (focus kernel_rfl))
          | (with_reducible refine aw_ret ?_)
        ); simp only [↓avP, avQ, if_true, if_false, forall_const, beq_self_eq_true, eq_self, ne_eq, implies_true, reduceIte, Nat.reduceEqDiff, Nat.reduceAdd, Nat.reduceSub, Int.reduceToNat, Nat.reduceLeDiff, Nat.reduceLT, reduceCtorEq, Int.reduceEq, retQ, retL, resV, RetV, RetOk, SubL, intD_B, lotD_B, flowD_B, snocI, snocL, issD_get, upM_tV, ty_3, ty_27, ty_4, ty_24, ty_40, ty_22, ty_31, ty_60, hd]; try simp (disch := omega) only [av_w, av_t1, av_tp, Int.toNat_natCast]))
    have : errS f t = 1 := by rw [errS, if_neg (by simpa using hc), if_neg hs]
    rw [sndR, this, if_neg (by decide)]
    exact ⟨Sub.nil _ _, Sub.refl _⟩
  have hd : decide (t ∈ endsF f) = true := decide_eq_true hs
  have he : errS f t = 0 := by rw [errS, if_neg (by simpa using hc), if_pos hs]
  have hM := wmatrix_spec f hf
  obtain ⟨z1, z2, z3, z4, z5⟩ := checkF_zero hc
  obtain ⟨N, hN⟩ : ∃ N : Nat, f.senders = N := ⟨f.senders.toNat, by omega⟩
  rw [hc, show matR f = matA f N by rw [matR, if_pos hc, hN]; rfl] at hM
  have hR : sndR f t = preR (matA f N) N t := by rw [sndR, if_pos he, hN, preR_end hs]; rfl
  have hnd : ∀ i, ((matA f N).getD i []).Nodup := fun i => by
    rcases Nat.lt_or_ge i N with h | h
    · rw [matA_get h]; exact (endsF_nd f).filter _
    · rw [List.getD, List.getElem?_eq_none (by rw [matA_len]; exact h)]; exact List.nodup_nil
  have hrl : ∀ i, ((matA f N).getD i []).length ≤ 50000 := fun i => by
    rcases Nat.lt_or_ge i N with h | h
    · rw [matA_get h]; exact Nat.le_trans (List.length_filter_le _ _) hEl
    · rw [List.getD, List.getElem?_eq_none (by rw [matA_len]; exact h)]; simp
  have hre : ∀ i, ∀ z ∈ (matA f N).getD i [], 0 ≤ z ∧ z ≤ 50000 := fun i z hz => by
    rcases Nat.lt_or_ge i N with h | h
    · rw [matA_get h] at hz
      have := mem_endsF.1 (List.mem_filter.1 hz).1
      omega
    · rw [List.getD, List.getElem?_eq_none (by rw [matA_len]; exact h)] at hz; cases hz
  have hml := matA_len f N
  obtain ⟨R, hRe⟩ : ∃ R, R = matA f N := ⟨_, rfl⟩
  rw [← hRe] at hM hR hml
  simp only [← hRe] at hnd hrl hre
  repeat' (first
    | (with_reducible refine aw_seq ?_)
    | ((with_reducible refine twoG_intro ?_ ?_) <;> intro hTw <;> first | (exact Bool.noConfusion hTw) | ((try simp only [hTw, Bool.not_true, Bool.not_false, Bool.true_and, Bool.false_and, Bool.and_true, Bool.and_false, Bool.true_or, Bool.false_or, Bool.or_true, Bool.or_false]); (first | (guard_hyp hTw : true = true; clear hTw) | (guard_hyp hTw : false = false; clear hTw) | (revert hTw; intro _))))
    | ((with_reducible refine two_intro ?_ ?_) <;> intro hTw <;> first | (exact Bool.noConfusion hTw) | ((first | (guard_hyp hTw : true = true; clear hTw) | (guard_hyp hTw : false = false; clear hTw) | (revert hTw; intro _))))
    | ((with_reducible refine And.intro ?_ ?_); (focus (first | exact keyOk_int_ | omega | rfl | decide | grind)))
    | (with_reducible refine aw_block ?_)
    | (with_reducible refine aw_scope ?_)
    | ((first
        | ((with_reducible refine aw_regionA T_ok ?_ ?_); (focus kernel_rfl))
        | ((with_reducible refine aw_drawnA T_ok ?_ ?_ ?_ ?_); (focus kernel_rfl); (focus kernel_rfl); (focus (decide +kernel)))
        | ((with_reducible refine aw_drawnF T_ok ?_ ?_ ?_ ?_); (focus kernel_rfl); (focus kernel_rfl); (focus (decide +kernel)))
        | ((with_reducible refine callK_intro (hE) (by with_unfolding_all rfl) ?_ ?_); (focus kernel_rfl))
        | ((with_reducible refine callI_spec (hE) (by with_unfolding_all rfl) ?_ ?_ ?_); (focus kernel_rfl); (focus kernel_rfl))
        | ((with_reducible refine callK_intro (hCo) (by with_unfolding_all rfl) ?_ ?_); (focus kernel_rfl))
        | ((with_reducible refine callI_spec (hCo) (by with_unfolding_all rfl) ?_ ?_ ?_); (focus kernel_rfl); (focus kernel_rfl))
        | ((with_reducible refine callK_intro (hM) (by with_unfolding_all rfl) ?_ ?_); (focus kernel_rfl))
        | ((with_reducible refine callI_spec (hM) (by with_unfolding_all rfl) ?_ ?_ ?_); (focus kernel_rfl); (focus kernel_rfl))
        | ((with_reducible apply callI_in T_ok Try.func37); (focus (dsimp only [Try.f37])); (focus rfl); (focus rfl); (focus kernel_rfl); (focus exact of_decide_eq_true (by kernel_rfl)); (focus kernel_rfl); (focus kernel_rfl); intro _)
        | (with_reducible refine aw_label ?_)
        | ((with_reducible refine aw_rfM ?_ ?_); (focus kernel_rfl))
        | (with_reducible refine aw_skip ?_)
        | (with_reducible refine aw_exit ?_)
        | ((with_reducible refine aw_condM ?_ ?_); (focus kernel_rfl))
        | (with_reducible refine aw_ret ?_)
      ); simp only [↓avP, avQ, if_true, if_false, forall_const, beq_self_eq_true, eq_self, ne_eq, implies_true, reduceIte, Nat.reduceEqDiff, Nat.reduceAdd, Nat.reduceSub, Int.reduceToNat, Nat.reduceLeDiff, Nat.reduceLT, reduceCtorEq, Int.reduceEq, retQ, retL, resV, RetV, RetOk, SubL, intD_B, lotD_B, flowD_B, snocI, snocL, issD_get, upM_tV, ty_3, ty_27, ty_4, ty_24, ty_40, ty_22, ty_31, ty_60, hd]; try simp (disch := omega) only [av_w, av_t1, av_tp, Int.toNat_natCast]))
  refine aw_loopI (fun y : Nat × TM × Nat => ⟨[(3, .mp 0), (9, vIss R), (10, vI R.length), (11, vI y.1), (34, vI t)], (0, .map .i 3 (.slice none 0 0) (.d (.c (.slice none 0 0))) (tV y.2.1)) :: tB y.2.1, y.2.2⟩)
    (fun y => y.1 ≤ R.length ∧ TOk y.2.1 y.2.2 ∧ 1 ≤ y.2.2 ∧ ∀ z, rowOf y.2.1 z = preR R y.1 z) (fun y => R.length - y.1) (0, [], 1) ⟨Nat.zero_le _, ⟨List.nodup_nil, fun n hn => by cases hn⟩, Nat.le_refl _, fun z => rfl⟩ (wk_of [(0, some 1)] rfl rfl ?_ ?_) ?_
  · simp only [wkT, wkB, wkB1, subV, subVs, subD, subB, lkN_n, lkN_c, lkT_n, lkT_c, lkB_n, lkB_c, if_true, if_false, reduceIte, Nat.reduceEqDiff, true_and, and_true, and_self, inT, ofA]
    (repeat' (first | exact trivial | rfl | exact rfl | exact subVs_d _ _ | exact subVs_dm _ _ | exact subD_refl _ | refine And.intro ?_ ?_))
  · simp only [wkT, wkB, wkB1, subV, subVs, subD, subB, lkN_n, lkN_c, lkT_n, lkT_c, lkB_n, lkB_c, if_true, if_false, reduceIte, Nat.reduceEqDiff, true_and, and_true, and_self, inT, ofA]
    exact ⟨trivial, trivial⟩
  rintro ⟨i, M, nx⟩ ⟨hi, hM, hnx, hrow⟩
  dsimp only at hi hM hnx hrow ⊢
  rcases Nat.lt_or_ge i R.length with hil | hig
  · have hd1 := ltd hil
    have hnd := hnd i
    have hrl := hrl i
    have hre := hre i
    have hts := fun {j : Nat} (hj : j < (R.getD i []).length) z => tgtJ_succ (R := R) (i := i) hj hnd z
    have hta := tgtJ_all R i
    have htl := tgtJ_len R i
    have ht0 := tgtJ_zero R i
    obtain ⟨r, hr⟩ : ∃ r, r = R.getD i [] := ⟨_, rfl⟩
    simp only [← hr] at hnd hrl hts hta hre
    repeat' (first
      | (with_reducible refine aw_seq ?_)
      | ((with_reducible refine twoG_intro ?_ ?_) <;> intro hTw <;> first | (exact Bool.noConfusion hTw) | ((try simp only [hTw, Bool.not_true, Bool.not_false, Bool.true_and, Bool.false_and, Bool.and_true, Bool.and_false, Bool.true_or, Bool.false_or, Bool.or_true, Bool.or_false]); (first | (guard_hyp hTw : true = true; clear hTw) | (guard_hyp hTw : false = false; clear hTw) | (revert hTw; intro _))))
      | ((with_reducible refine two_intro ?_ ?_) <;> intro hTw <;> first | (exact Bool.noConfusion hTw) | ((first | (guard_hyp hTw : true = true; clear hTw) | (guard_hyp hTw : false = false; clear hTw) | (revert hTw; intro _))))
      | ((with_reducible refine And.intro ?_ ?_); (focus (first | exact keyOk_int_ | omega | rfl | decide | grind)))
      | (with_reducible refine aw_block ?_)
      | (with_reducible refine aw_scope ?_)
      | ((first
          | ((with_reducible refine aw_regionA T_ok ?_ ?_); (focus kernel_rfl))
          | ((with_reducible refine aw_drawnA T_ok ?_ ?_ ?_ ?_); (focus kernel_rfl); (focus kernel_rfl); (focus (decide +kernel)))
          | ((with_reducible refine aw_drawnF T_ok ?_ ?_ ?_ ?_); (focus kernel_rfl); (focus kernel_rfl); (focus (decide +kernel)))
          | (with_reducible refine aw_label ?_)
          | ((with_reducible refine aw_rfM ?_ ?_); (focus kernel_rfl))
          | (with_reducible refine aw_skip ?_)
          | (with_reducible refine aw_exit ?_)
          | ((with_reducible refine aw_condM ?_ ?_); (focus kernel_rfl))
          | (with_reducible refine aw_ret ?_)
        ); simp only [↓avP, avQ, if_true, if_false, forall_const, beq_self_eq_true, eq_self, ne_eq, implies_true, reduceIte, Nat.reduceEqDiff, Nat.reduceAdd, Nat.reduceSub, Int.reduceToNat, Nat.reduceLeDiff, Nat.reduceLT, reduceCtorEq, Int.reduceEq, retQ, retL, resV, RetV, RetOk, SubL, intD_B, lotD_B, flowD_B, snocI, snocL, issD_get, upM_tV, ty_3, ty_27, ty_4, ty_24, ty_40, ty_22, ty_31, ty_60, hd1, ← hr]; try simp (disch := omega) only [av_w, av_t1, av_tp, Int.toNat_natCast]))
    refine aw_loopI (fun y : Nat × TM × Nat => ⟨[(3, .mp 0), (4, vI i), (9, vIss R), (10, vI R.length), (11, vI i), (16, vIs r), (17, vI r.length), (18, vI y.1), (34, vI t)], (0, .map .i 3 (.slice none 0 0) (.d (.c (.slice none 0 0))) (tV y.2.1)) :: tB y.2.1, y.2.2⟩)
      (fun y => y.1 ≤ r.length ∧ TOk y.2.1 y.2.2 ∧ 1 ≤ y.2.2 ∧ ∀ z, rowOf y.2.1 z = tgtJ R i y.1 z) (fun y => r.length - y.1) (0, M, nx) ⟨Nat.zero_le _, hM, hnx, fun z => (hrow z).trans (ht0 z).symm⟩ (wk_tm hM hnx ?_) ?_
    · simp only [wkT, wkB, wkB1, subV, subVs, subD, subB, lkN_n, lkN_c, lkT_n, lkT_c, lkB_n, lkB_c, if_true, if_false, reduceIte, Nat.reduceEqDiff, true_and, and_true, and_self, inT, ofA, lkN0]
      (repeat' (first | exact trivial | rfl | exact rfl | exact subVs_d _ _ | exact subVs_dm _ _ | exact subD_refl _ | refine And.intro ?_ ?_))
    clear hrow hM hnx
    rintro ⟨j, M, nx⟩ ⟨hj, hM, hnx, hrow⟩
    dsimp only at hj hM hnx hrow ⊢
    rcases Nat.lt_or_ge j r.length with hjl | hjg
    · have hd2 := ltd hjl
      have hts := hts hjl
      have hxb := hre _ (getD_mem hjl)
      obtain ⟨x, hx⟩ : ∃ x, x = r.getD j 0 := ⟨_, rfl⟩
      rw [← hx] at hxb
      simp only [← hx] at hts
      have n1 : (nx = 0) = False := eq_false (by omega)
      have n2 : (0 = nx) = False := eq_false (by omega)
      have n3 : (0 = nx + 1) = False := eq_false (by omega)
      have n4 : (nx = nx + 1) = False := eq_false (by omega)
      have n5 : (nx + 1 = nx) = False := eq_false (by omega)
      have hlk := lkM_tV x M
      cases hz : fnd x M with
      | none =>
        rw [hz] at hlk
        rw [show (none : Option (Nat × List Int)).map (fun q => V.ow q.1 1 (intD 0) (q.2.map intD)) = none from rfl] at hlk
        repeat' (first
          | (with_reducible refine aw_seq ?_)
          | ((with_reducible refine twoG_intro ?_ ?_) <;> intro hTw <;> first | (exact Bool.noConfusion hTw) | ((try simp only [hTw, Bool.not_true, Bool.not_false, Bool.true_and, Bool.false_and, Bool.and_true, Bool.and_false, Bool.true_or, Bool.false_or, Bool.or_true, Bool.or_false]); (first | (guard_hyp hTw : true = true; clear hTw) | (guard_hyp hTw : false = false; clear hTw) | (revert hTw; intro _))))
          | ((with_reducible refine two_intro ?_ ?_) <;> intro hTw <;> first | (exact Bool.noConfusion hTw) | ((first | (guard_hyp hTw : true = true; clear hTw) | (guard_hyp hTw : false = false; clear hTw) | (revert hTw; intro _))))
          | ((with_reducible refine And.intro ?_ ?_); (focus (first | exact keyOk_int_ | omega | rfl | decide | grind)))
          | (with_reducible refine aw_block ?_)
          | (with_reducible refine aw_scope ?_)
          | ((first
              | ((with_reducible refine aw_regionA T_ok ?_ ?_); (focus kernel_rfl))
              | ((with_reducible refine aw_drawnA T_ok ?_ ?_ ?_ ?_); (focus kernel_rfl); (focus kernel_rfl); (focus (decide +kernel)))
              | ((with_reducible refine aw_drawnF T_ok ?_ ?_ ?_ ?_); (focus kernel_rfl); (focus kernel_rfl); (focus (decide +kernel)))
              | (with_reducible refine aw_label ?_)
              | ((with_reducible refine aw_rfM ?_ ?_); (focus kernel_rfl))
              | (with_reducible refine aw_skip ?_)
              | (with_reducible refine aw_exit ?_)
              | ((with_reducible refine aw_condM ?_ ?_); (focus kernel_rfl))
              | (with_reducible refine aw_ret ?_)
            ); simp only [↓avP, avQ, if_true, if_false, forall_const, beq_self_eq_true, eq_self, ne_eq, implies_true, reduceIte, Nat.reduceEqDiff, Nat.reduceAdd, Nat.reduceSub, Int.reduceToNat, Nat.reduceLeDiff, Nat.reduceLT, reduceCtorEq, Int.reduceEq, retQ, retL, resV, RetV, RetOk, SubL, intD_B, lotD_B, flowD_B, snocI, snocL, issD_get, upM_tV, ty_3, ty_27, ty_4, ty_24, ty_40, ty_22, ty_31, ty_60, hd2, ← hx, hlk, n1, n2, n3, n4, n5]; try simp (disch := omega) only [av_w, av_t1, av_tp, Int.toNat_natCast]))
        have hu := hM.upd x [(i : Int)] (n := nx + 1) (by omega) (by omega)
        refine ⟨(j + 1, updR x (nx + 1) [(i : Int)] M, nx + 1 + 1), ⟨by dsimp only; omega, hu, by dsimp only; omega, fun z => ?_⟩, by dsimp only; omega, wk_of (idR (0 :: nms (updR x (nx + 1) [(i : Int)] M))) (injB_idR hu.cons) (hu.lt (by omega)) ?_ ?_⟩
        · dsimp only
          rw [rowOf_upd, hts z, hrow z]
          have h1 := hrow x
          rw [show rowOf M x = [] by unfold rowOf; rw [hz]; rfl] at h1
          rw [← h1]
          rfl
        · simp only [wkT, wkB, wkB1, subV, subVs, subD, subB, lkN_n, lkN_c, lkT_n, lkT_c, lkB_n, lkB_c, if_true, if_false, reduceIte, Nat.reduceEqDiff, true_and, and_true, and_self, inT, ofA, lkN0]
          (repeat' (first | exact trivial | rfl | exact rfl | exact subVs_d _ _ | exact subVs_dm _ _ | exact subD_refl _ | refine And.intro ?_ ?_))
        · dsimp only
          refine wkB_tm hM (by omega) (by omega) ?_ ?_ (fun p hp _ => ?_)
          · rw [lkB_c, if_neg (by omega), lkB_c, if_neg (by omega), lkB_c, if_pos rfl, upM_tV1]
          · rw [lkB_c, if_pos rfl]; rfl
          · have hpn := hM.lo _ (List.mem_map.2 ⟨p, hp, rfl⟩)
            rw [lkB_c, if_neg (by omega), lkB_c, if_neg (by omega), lkB_c, if_neg (by omega)]
            exact lkB_tB hM.nd (show (p.1, p.2.1, p.2.2) ∈ M from hp)
      | some q =>
        obtain ⟨m, l⟩ := q
        rw [hz] at hlk
        rw [show (some (m, l)).map (fun q => V.ow q.1 1 (intD 0) (q.2.map intD)) = some (V.ow m 1 (intD 0) (l.map intD)) from rfl] at hlk
        have hmem := fnd_mem hz
        have hmn := hM.lo m (List.mem_map.2 ⟨_, hmem, rfl⟩)
        have hb := lkB_tB hM.nd hmem
        have hll : l.length ≤ i + 1 := by
          have h1 := hrow x
          have h2 : rowOf M x = l := by unfold rowOf; rw [hz]; rfl
          have h3 := htl j x
          rw [← h1, h2] at h3
          exact h3
        have m1 : (m = nx) = False := eq_false (by omega)
        have m2 : (m = 0) = False := eq_false (by omega)
        repeat' (first
          | (with_reducible refine aw_seq ?_)
          | ((with_reducible refine twoG_intro ?_ ?_) <;> intro hTw <;> first | (exact Bool.noConfusion hTw) | ((try simp only [hTw, Bool.not_true, Bool.not_false, Bool.true_and, Bool.false_and, Bool.and_true, Bool.and_false, Bool.true_or, Bool.false_or, Bool.or_true, Bool.or_false]); (first | (guard_hyp hTw : true = true; clear hTw) | (guard_hyp hTw : false = false; clear hTw) | (revert hTw; intro _))))
          | ((with_reducible refine two_intro ?_ ?_) <;> intro hTw <;> first | (exact Bool.noConfusion hTw) | ((first | (guard_hyp hTw : true = true; clear hTw) | (guard_hyp hTw : false = false; clear hTw) | (revert hTw; intro _))))
          | ((with_reducible refine And.intro ?_ ?_); (focus (first | exact keyOk_int_ | omega | rfl | decide | grind)))
          | (with_reducible refine aw_block ?_)
          | (with_reducible refine aw_scope ?_)
          | ((first
              | ((with_reducible refine aw_regionA T_ok ?_ ?_); (focus kernel_rfl))
              | ((with_reducible refine aw_drawnA T_ok ?_ ?_ ?_ ?_); (focus kernel_rfl); (focus kernel_rfl); (focus (decide +kernel)))
              | ((with_reducible refine aw_drawnF T_ok ?_ ?_ ?_ ?_); (focus kernel_rfl); (focus kernel_rfl); (focus (decide +kernel)))
              | (with_reducible refine aw_label ?_)
              | ((with_reducible refine aw_rfM ?_ ?_); (focus kernel_rfl))
              | (with_reducible refine aw_skip ?_)
              | (with_reducible refine aw_exit ?_)
              | ((with_reducible refine aw_condM ?_ ?_); (focus kernel_rfl))
              | (with_reducible refine aw_ret ?_)
            ); simp only [↓avP, avQ, if_true, if_false, forall_const, beq_self_eq_true, eq_self, ne_eq, implies_true, reduceIte, Nat.reduceEqDiff, Nat.reduceAdd, Nat.reduceSub, Int.reduceToNat, Nat.reduceLeDiff, Nat.reduceLT, reduceCtorEq, Int.reduceEq, retQ, retL, resV, RetV, RetOk, SubL, intD_B, lotD_B, flowD_B, snocI, snocL, issD_get, upM_tV, ty_3, ty_27, ty_4, ty_24, ty_40, ty_22, ty_31, ty_60, hd2, ← hx, hlk, hb, n1, n2, n3, n4, n5, m1, m2]; try simp (disch := omega) only [av_w, av_t1, av_tp, Int.toNat_natCast]))
        have hu := hM.upd x (l ++ [(i : Int)]) (n := nx + 1) (by omega) (by omega)
        refine ⟨(j + 1, updR x (nx + 1) (l ++ [(i : Int)]) M, nx + 1 + 1), ⟨by dsimp only; omega, hu, by dsimp only; omega, fun z => ?_⟩, by dsimp only; omega, wk_of (idR (0 :: nms (updR x (nx + 1) (l ++ [(i : Int)]) M))) (injB_idR hu.cons) (hu.lt (by omega)) ?_ ?_⟩
        · dsimp only
          rw [rowOf_upd, hts z, hrow z]
          have h1 := hrow x
          rw [show rowOf M x = l by unfold rowOf; rw [hz]; rfl] at h1
          rw [← h1]
        · simp only [wkT, wkB, wkB1, subV, subVs, subD, subB, lkN_n, lkN_c, lkT_n, lkT_c, lkB_n, lkB_c, if_true, if_false, reduceIte, Nat.reduceEqDiff, true_and, and_true, and_self, inT, ofA, lkN0]
          (repeat' (first | exact trivial | rfl | exact rfl | exact subVs_d _ _ | exact subVs_dm _ _ | exact subD_refl _ | refine And.intro ?_ ?_))
        · dsimp only
          refine wkB_tm hM (by omega) (by omega) ?_ ?_ (fun p hp hne => ?_)
          · rw [lkB_c, if_neg (by omega), lkB_c, if_neg (by omega), lkB_c, if_pos rfl]
          · rw [lkB_c, if_pos rfl, List.length_append]; rfl
          · have hpn := hM.lo _ (List.mem_map.2 ⟨p, hp, rfl⟩)
            rw [lkB_c, if_neg (by omega), lkB_c, if_neg (by omega), lkB_c, if_neg (by omega), lkB_delB, if_neg (hne (m, l) hz)]
            exact lkB_tB hM.nd (show (p.1, p.2.1, p.2.2) ∈ M from hp)
    · obtain rfl : j = r.length := by omega
      have hd2 := ged (Nat.le_refl r.length)
      repeat' (first
        | (with_reducible refine aw_seq ?_)
        | ((with_reducible refine twoG_intro ?_ ?_) <;> intro hTw <;> first | (exact Bool.noConfusion hTw) | ((try simp only [hTw, Bool.not_true, Bool.not_false, Bool.true_and, Bool.false_and, Bool.and_true, Bool.and_false, Bool.true_or, Bool.false_or, Bool.or_true, Bool.or_false]); (first | (guard_hyp hTw : true = true; clear hTw) | (guard_hyp hTw : false = false; clear hTw) | (revert hTw; intro _))))
        | ((with_reducible refine two_intro ?_ ?_) <;> intro hTw <;> first | (exact Bool.noConfusion hTw) | ((first | (guard_hyp hTw : true = true; clear hTw) | (guard_hyp hTw : false = false; clear hTw) | (revert hTw; intro _))))
        | ((with_reducible refine And.intro ?_ ?_); (focus (first | exact keyOk_int_ | omega | rfl | decide | grind)))
        | (with_reducible refine aw_block ?_)
        | (with_reducible refine aw_scope ?_)
        | ((first
            | ((with_reducible refine aw_regionA T_ok ?_ ?_); (focus kernel_rfl))
            | ((with_reducible refine aw_drawnA T_ok ?_ ?_ ?_ ?_); (focus kernel_rfl); (focus kernel_rfl); (focus (decide +kernel)))
            | ((with_reducible refine aw_drawnF T_ok ?_ ?_ ?_ ?_); (focus kernel_rfl); (focus kernel_rfl); (focus (decide +kernel)))
            | (with_reducible refine aw_label ?_)
            | ((with_reducible refine aw_rfM ?_ ?_); (focus kernel_rfl))
            | (with_reducible refine aw_skip ?_)
            | (with_reducible refine aw_exit ?_)
            | ((with_reducible refine aw_condM ?_ ?_); (focus kernel_rfl))
            | (with_reducible refine aw_ret ?_)
          ); simp only [↓avP, avQ, if_true, if_false, forall_const, beq_self_eq_true, eq_self, ne_eq, implies_true, reduceIte, Nat.reduceEqDiff, Nat.reduceAdd, Nat.reduceSub, Int.reduceToNat, Nat.reduceLeDiff, Nat.reduceLT, reduceCtorEq, Int.reduceEq, retQ, retL, resV, RetV, RetOk, SubL, intD_B, lotD_B, flowD_B, snocI, snocL, issD_get, upM_tV, ty_3, ty_27, ty_4, ty_24, ty_40, ty_22, ty_31, ty_60, hd2]; try simp (disch := omega) only [av_w, av_t1, av_tp, Int.toNat_natCast]))
      refine ⟨(i + 1, M, nx), ⟨by dsimp only; omega, hM, hnx, fun z => (hrow z).trans (hta z)⟩, by dsimp only; omega, wk_tm hM hnx ?_⟩
      simp only [wkT, wkB, wkB1, subV, subVs, subD, subB, lkN_n, lkN_c, lkT_n, lkT_c, lkB_n, lkB_c, if_true, if_false, reduceIte, Nat.reduceEqDiff, true_and, and_true, and_self, inT, ofA, lkN0]
      (repeat' (first | exact trivial | rfl | exact rfl | exact subVs_d _ _ | exact subVs_dm _ _ | exact subD_refl _ | refine And.intro ?_ ?_))
  obtain rfl : i = R.length := by omega
  have hd1 := ged (Nat.le_refl R.length)
  have htb := (mem_endsF (f := f)).1 hs
  have hlk := lkM_tV t M
  have hrt := hrow t
  rw [hml, ← hR] at hrt
  cases hz : fnd t M with
  | none =>
    rw [hz] at hlk
    rw [show (none : Option (Nat × List Int)).map (fun q => V.ow q.1 1 (intD 0) (q.2.map intD)) = none from rfl] at hlk
    have h2 : rowOf M t = [] := by unfold rowOf; rw [hz]; rfl
    rw [h2] at hrt
    repeat' (first
      | (with_reducible refine aw_seq ?_)
      | ((with_reducible refine twoG_intro ?_ ?_) <;> intro hTw <;> first | (exact Bool.noConfusion hTw) | ((try simp only [hTw, Bool.not_true, Bool.not_false, Bool.true_and, Bool.false_and, Bool.and_true, Bool.and_false, Bool.true_or, Bool.false_or, Bool.or_true, Bool.or_false]); (first | (guard_hyp hTw : true = true; clear hTw) | (guard_hyp hTw : false = false; clear hTw) | (revert hTw; intro _))))
      | ((with_reducible refine two_intro ?_ ?_) <;> intro hTw <;> first | (exact Bool.noConfusion hTw) | ((first | (guard_hyp hTw : true = true; clear hTw) | (guard_hyp hTw : false = false; clear hTw) | (revert hTw; intro _))))
      | ((with_reducible refine And.intro ?_ ?_); (focus (first | exact keyOk_int_ | omega | rfl | decide | grind)))
      | (with_reducible refine aw_block ?_)
      | (with_reducible refine aw_scope ?_)
      | ((first
          | ((with_reducible refine aw_regionA T_ok ?_ ?_); (focus kernel_rfl))
          | ((with_reducible refine aw_drawnA T_ok ?_ ?_ ?_ ?_); (focus kernel_rfl); (focus kernel_rfl); (focus (decide +kernel)))
          | ((with_reducible refine aw_drawnF T_ok ?_ ?_ ?_ ?_); (focus kernel_rfl); (focus kernel_rfl); (focus (decide +kernel)))
          | (with_reducible refine aw_label ?_)
          | ((with_reducible refine aw_rfM ?_ ?_); (focus kernel_rfl))
          | (with_reducible refine aw_skip ?_)
          | (with_reducible refine aw_exit ?_)
          | ((with_reducible refine aw_condM ?_ ?_); (focus kernel_rfl))
          | (with_reducible refine aw_ret ?_)
        ); simp only [↓avP, avQ, if_true, if_false, forall_const, beq_self_eq_true, eq_self, ne_eq, implies_true, reduceIte, Nat.reduceEqDiff, Nat.reduceAdd, Nat.reduceSub, Int.reduceToNat, Nat.reduceLeDiff, Nat.reduceLT, reduceCtorEq, Int.reduceEq, retQ, retL, resV, RetV, RetOk, SubL, intD_B, lotD_B, flowD_B, snocI, snocL, issD_get, upM_tV, ty_3, ty_27, ty_4, ty_24, ty_40, ty_22, ty_31, ty_60, hd1, hlk]; try simp (disch := omega) only [av_w, av_t1, av_tp, Int.toNat_natCast]))
    rw [← hrt, he]
    exact ⟨Sub.nil _ _, Sub.refl _⟩
  | some q =>
    obtain ⟨m, l⟩ := q
    rw [hz] at hlk
    rw [show (some (m, l)).map (fun q => V.ow q.1 1 (intD 0) (q.2.map intD)) = some (V.ow m 1 (intD 0) (l.map intD)) from rfl] at hlk
    have h2 : rowOf M t = l := by unfold rowOf; rw [hz]; rfl
    rw [h2] at hrt
    repeat' (first
      | (with_reducible refine aw_seq ?_)
      | ((with_reducible refine twoG_intro ?_ ?_) <;> intro hTw <;> first | (exact Bool.noConfusion hTw) | ((try simp only [hTw, Bool.not_true, Bool.not_false, Bool.true_and, Bool.false_and, Bool.and_true, Bool.and_false, Bool.true_or, Bool.false_or, Bool.or_true, Bool.or_false]); (first | (guard_hyp hTw : true = true; clear hTw) | (guard_hyp hTw : false = false; clear hTw) | (revert hTw; intro _))))
      | ((with_reducible refine two_intro ?_ ?_) <;> intro hTw <;> first | (exact Bool.noConfusion hTw) | ((first | (guard_hyp hTw : true = true; clear hTw) | (guard_hyp hTw : false = false; clear hTw) | (revert hTw; intro _))))
      | ((with_reducible refine And.intro ?_ ?_); (focus (first | exact keyOk_int_ | omega | rfl | decide | grind)))
      | (with_reducible refine aw_block ?_)
      | (with_reducible refine aw_scope ?_)
      | ((first
          | ((with_reducible refine aw_regionA T_ok ?_ ?_); (focus kernel_rfl))
          | ((with_reducible refine aw_drawnA T_ok ?_ ?_ ?_ ?_); (focus kernel_rfl); (focus kernel_rfl); (focus (decide +kernel)))
          | ((with_reducible refine aw_drawnF T_ok ?_ ?_ ?_ ?_); (focus kernel_rfl); (focus kernel_rfl); (focus (decide +kernel)))
          | (with_reducible refine aw_label ?_)
          | ((with_reducible refine aw_rfM ?_ ?_); (focus kernel_rfl))
          | (with_reducible refine aw_skip ?_)
          | (with_reducible refine aw_exit ?_)
          | ((with_reducible refine aw_condM ?_ ?_); (focus kernel_rfl))
          | (with_reducible refine aw_ret ?_)
        ); simp only [↓avP, avQ, if_true, if_false, forall_const, beq_self_eq_true, eq_self, ne_eq, implies_true, reduceIte, Nat.reduceEqDiff, Nat.reduceAdd, Nat.reduceSub, Int.reduceToNat, Nat.reduceLeDiff, Nat.reduceLT, reduceCtorEq, Int.reduceEq, retQ, retL, resV, RetV, RetOk, SubL, intD_B, lotD_B, flowD_B, snocI, snocL, issD_get, upM_tV, ty_3, ty_27, ty_4, ty_24, ty_40, ty_22, ty_31, ty_60, hd1, hlk]; try simp (disch := omega) only [av_w, av_t1, av_tp, Int.toNat_natCast]))
    rw [← hrt, he]
    exact ⟨Sub.refl _, Sub.refl _⟩
end Go.Proofs.Ytncihbmehbiekaa


namespace Go.Proofs.Ytncihbmehbiekaa
set_option linter.unusedSimpArgs false
set_option linter.unusedVariables false
open Go.RowKit
set_option maxRecDepth 100000
set_option maxHeartbeats 4000000
end Go.Proofs.Ytncihbmehbiekaa


namespace Go.Proofs.Ytncihbmehbiekaa
set_option linter.unusedSimpArgs false
set_option linter.unusedVariables false
open Go.RowKit
set_option maxRecDepth 100000
set_option maxHeartbeats 4000000
end Go.Proofs.Ytncihbmehbiekaa


namespace Go.Proofs.Ytncihbmehbiekaa
set_option linter.unusedSimpArgs false
set_option linter.unusedVariables false
open Go.RowKit
set_option maxRecDepth 100000
set_option maxHeartbeats 4000000
theorem lists_ext {a b : List (List Int)} (h2 : a.length = b.length) (h3 : ∀ i, i < a.length → a.getD i [] = b.getD i []) : a = b := by
  refine List.ext_getElem h2 fun i h1 h2 => ?_
  have := h3 i h1
  simpa [List.getD, h1, h2] using this
theorem qwsame_spec (a b : List (List Int)) (hx : ∀ k, (a.getD k []).length ≤ 140737488351232) (ha : a.length ≤ 140737488351232) (hb : b.length ≤ 140737488351232) : Spec Try.prog 19 [aIss a, aIss b] (.r1 (aB (decide (a = b)))) := by
  refine spec_of T_ok Try.func19 (by dsimp only [Try.f19]) rfl rfl (by simp) fun w F => ?_
  by_cases h2 : a.length = b.length
  rotate_left
  · have hd2 : ((a.length : Int) != (b.length : Int)) = true := by simp; omega
    repeat' (first
      | (with_reducible refine aw_seq ?_)
      | ((with_reducible refine twoG_intro ?_ ?_) <;> intro hTw <;> first | (exact Bool.noConfusion hTw) | ((try simp only [hTw, Bool.not_true, Bool.not_false, Bool.true_and, Bool.false_and, Bool.and_true, Bool.and_false, Bool.true_or, Bool.false_or, Bool.or_true, Bool.or_false]); (first | (guard_hyp hTw : true = true; clear hTw) | (guard_hyp hTw : false = false; clear hTw) | (revert hTw; intro _))))
      | ((with_reducible refine two_intro ?_ ?_) <;> intro hTw <;> first | (exact Bool.noConfusion hTw) | ((first | (guard_hyp hTw : true = true; clear hTw) | (guard_hyp hTw : false = false; clear hTw) | (revert hTw; intro _))))
      | ((with_reducible refine And.intro ?_ ?_); (focus (first | omega | rfl | decide | grind)))
      | (with_reducible refine aw_block ?_)
      | (with_reducible refine aw_scope ?_)
      | ((first
          | ((with_reducible refine aw_regionA T_ok ?_ ?_); (focus kernel_rfl))
          | ((with_reducible refine aw_drawnA T_ok ?_ ?_ ?_ ?_); (focus kernel_rfl); (focus kernel_rfl); (focus (decide +kernel)))
          | ((with_reducible refine aw_drawnF T_ok ?_ ?_ ?_ ?_); (focus kernel_rfl); (focus kernel_rfl); (focus (decide +kernel)))
          | (with_reducible refine aw_label ?_)
          | ((with_reducible refine aw_rfM ?_ ?_); (focus kernel_rfl))
          | (with_reducible refine aw_skip ?_)
          | (with_reducible refine aw_exit ?_)
          | ((with_reducible refine aw_condM ?_ ?_); (focus kernel_rfl))
          | (with_reducible refine aw_ret ?_)
        ); simp only [↓avP, avQ, if_true, if_false, forall_const, beq_self_eq_true, eq_self, ne_eq, implies_true, reduceIte, Nat.reduceEqDiff, Nat.reduceAdd, Nat.reduceSub, Int.reduceToNat, Nat.reduceLeDiff, Nat.reduceLT, reduceCtorEq, Int.reduceEq, retQ, retL, resV, RetV, RetOk, SubL, intD_B, lotD_B, flowD_B, snocI, snocL, ty_3, ty_27, ty_4, ty_24, ty_40, ty_22, ty_31, issD_get, hd2]; try simp (disch := omega) only [av_w, av_t1, av_tp, Int.toNat_natCast]))
    exact Sub.of_eq (congrArg aB (decide_eq_false (fun e => h2 (by rw [e]))).symm)
  have hd2 : ((a.length : Int) != (b.length : Int)) = false := by simp; omega
  repeat' (first
    | (with_reducible refine aw_seq ?_)
    | ((with_reducible refine twoG_intro ?_ ?_) <;> intro hTw <;> first | (exact Bool.noConfusion hTw) | ((try simp only [hTw, Bool.not_true, Bool.not_false, Bool.true_and, Bool.false_and, Bool.and_true, Bool.and_false, Bool.true_or, Bool.false_or, Bool.or_true, Bool.or_false]); (first | (guard_hyp hTw : true = true; clear hTw) | (guard_hyp hTw : false = false; clear hTw) | (revert hTw; intro _))))
    | ((with_reducible refine two_intro ?_ ?_) <;> intro hTw <;> first | (exact Bool.noConfusion hTw) | ((first | (guard_hyp hTw : true = true; clear hTw) | (guard_hyp hTw : false = false; clear hTw) | (revert hTw; intro _))))
    | ((with_reducible refine And.intro ?_ ?_); (focus (first | omega | rfl | decide | grind)))
    | (with_reducible refine aw_block ?_)
    | (with_reducible refine aw_scope ?_)
    | ((first
        | ((with_reducible refine aw_regionA T_ok ?_ ?_); (focus kernel_rfl))
        | ((with_reducible refine aw_drawnA T_ok ?_ ?_ ?_ ?_); (focus kernel_rfl); (focus kernel_rfl); (focus (decide +kernel)))
        | ((with_reducible refine aw_drawnF T_ok ?_ ?_ ?_ ?_); (focus kernel_rfl); (focus kernel_rfl); (focus (decide +kernel)))
        | (with_reducible refine aw_label ?_)
        | ((with_reducible refine aw_rfM ?_ ?_); (focus kernel_rfl))
        | (with_reducible refine aw_skip ?_)
        | (with_reducible refine aw_exit ?_)
        | ((with_reducible refine aw_condM ?_ ?_); (focus kernel_rfl))
        | (with_reducible refine aw_ret ?_)
      ); simp only [↓avP, avQ, if_true, if_false, forall_const, beq_self_eq_true, eq_self, ne_eq, implies_true, reduceIte, Nat.reduceEqDiff, Nat.reduceAdd, Nat.reduceSub, Int.reduceToNat, Nat.reduceLeDiff, Nat.reduceLT, reduceCtorEq, Int.reduceEq, retQ, retL, resV, RetV, RetOk, SubL, intD_B, lotD_B, flowD_B, snocI, snocL, ty_3, ty_27, ty_4, ty_24, ty_40, ty_22, ty_31, issD_get, hd2]; try simp (disch := omega) only [av_w, av_t1, av_tp, Int.toNat_natCast]))
  refine aw_loopI (fun k : Nat => ⟨[(0, vIss a), (1, vIss b), (5, vI k)], [], 0⟩) (fun k => k ≤ a.length ∧ ∀ i, i < k → a.getD i [] = b.getD i []) (fun k => a.length - k) 0 ⟨Nat.zero_le _, fun i hi => absurd hi (Nat.not_lt_zero i)⟩ (wk_of [] rfl rfl ?_ ?_) ?_
  · simp only [wkT, wkB, wkB1, subV, subVs, subD, subB, lkN_n, lkN_c, lkT_n, lkT_c, lkB_n, lkB_c, if_true, if_false, reduceIte, Nat.reduceEqDiff, true_and, and_true, and_self, inT, ofA]
    (repeat' (first | exact trivial | rfl | exact rfl | exact subVs_d _ _ | exact subVs_dm _ _ | exact subD_refl _ | refine And.intro ?_ ?_))
  · simp only [wkT, wkB, wkB1, subV, subVs, subD, subB, lkN_n, lkN_c, lkT_n, lkT_c, lkB_n, lkB_c, if_true, if_false, reduceIte, Nat.reduceEqDiff, true_and, and_true, and_self, inT, ofA]
    (repeat' (first | exact trivial | rfl | exact rfl | exact subVs_d _ _ | exact subVs_dm _ _ | exact subD_refl _ | refine And.intro ?_ ?_))
  rintro k ⟨hk, h0⟩
  rcases Nat.lt_or_ge k a.length with hlt | hge
  · have hd := ltd hlt
    have s1 := sameInts_spec (a.getD k []) (b.getD k []) (hx k)
    by_cases e2 : a.getD k [] = b.getD k []
    rotate_left
    · have g2 : decide (a.getD k [] = b.getD k []) = false := decide_eq_false e2
      repeat' (first
        | (with_reducible refine aw_seq ?_)
        | ((with_reducible refine twoG_intro ?_ ?_) <;> intro hTw <;> first | (exact Bool.noConfusion hTw) | ((try simp only [hTw, Bool.not_true, Bool.not_false, Bool.true_and, Bool.false_and, Bool.and_true, Bool.and_false, Bool.true_or, Bool.false_or, Bool.or_true, Bool.or_false]); (first | (guard_hyp hTw : true = true; clear hTw) | (guard_hyp hTw : false = false; clear hTw) | (revert hTw; intro _))))
        | ((with_reducible refine two_intro ?_ ?_) <;> intro hTw <;> first | (exact Bool.noConfusion hTw) | ((first | (guard_hyp hTw : true = true; clear hTw) | (guard_hyp hTw : false = false; clear hTw) | (revert hTw; intro _))))
        | ((with_reducible refine And.intro ?_ ?_); (focus (first | omega | rfl | decide | grind)))
        | (with_reducible refine aw_block ?_)
        | (with_reducible refine aw_scope ?_)
        | ((first
            | ((with_reducible refine aw_regionA T_ok ?_ ?_); (focus kernel_rfl))
            | ((with_reducible refine aw_drawnA T_ok ?_ ?_ ?_ ?_); (focus kernel_rfl); (focus kernel_rfl); (focus (decide +kernel)))
            | ((with_reducible refine aw_drawnF T_ok ?_ ?_ ?_ ?_); (focus kernel_rfl); (focus kernel_rfl); (focus (decide +kernel)))
            | ((with_reducible refine callK_intro (s1) (by with_unfolding_all rfl) ?_ ?_); (focus kernel_rfl))
            | ((with_reducible refine callI_spec (s1) (by with_unfolding_all rfl) ?_ ?_ ?_); (focus kernel_rfl); (focus kernel_rfl))
            | (with_reducible refine aw_label ?_)
            | ((with_reducible refine aw_rfM ?_ ?_); (focus kernel_rfl))
            | (with_reducible refine aw_skip ?_)
            | (with_reducible refine aw_exit ?_)
            | ((with_reducible refine aw_condM ?_ ?_); (focus kernel_rfl))
            | (with_reducible refine aw_ret ?_)
          ); simp only [↓avP, avQ, if_true, if_false, forall_const, beq_self_eq_true, eq_self, ne_eq, implies_true, reduceIte, Nat.reduceEqDiff, Nat.reduceAdd, Nat.reduceSub, Int.reduceToNat, Nat.reduceLeDiff, Nat.reduceLT, reduceCtorEq, Int.reduceEq, retQ, retL, resV, RetV, RetOk, SubL, intD_B, lotD_B, flowD_B, snocI, snocL, ty_3, ty_27, ty_4, ty_24, ty_40, ty_22, ty_31, issD_get, hd, g2]; try simp (disch := omega) only [av_w, av_t1, av_tp, Int.toNat_natCast]))
      exact Sub.of_eq (congrArg aB (decide_eq_false (fun e => e2 (by rw [e])))).symm
    have g2 : decide (a.getD k [] = b.getD k []) = true := decide_eq_true e2
    repeat' (first
      | (with_reducible refine aw_seq ?_)
      | ((with_reducible refine twoG_intro ?_ ?_) <;> intro hTw <;> first | (exact Bool.noConfusion hTw) | ((try simp only [hTw, Bool.not_true, Bool.not_false, Bool.true_and, Bool.false_and, Bool.and_true, Bool.and_false, Bool.true_or, Bool.false_or, Bool.or_true, Bool.or_false]); (first | (guard_hyp hTw : true = true; clear hTw) | (guard_hyp hTw : false = false; clear hTw) | (revert hTw; intro _))))
      | ((with_reducible refine two_intro ?_ ?_) <;> intro hTw <;> first | (exact Bool.noConfusion hTw) | ((first | (guard_hyp hTw : true = true; clear hTw) | (guard_hyp hTw : false = false; clear hTw) | (revert hTw; intro _))))
      | ((with_reducible refine And.intro ?_ ?_); (focus (first | omega | rfl | decide | grind)))
      | (with_reducible refine aw_block ?_)
      | (with_reducible refine aw_scope ?_)
      | ((first
          | ((with_reducible refine aw_regionA T_ok ?_ ?_); (focus kernel_rfl))
          | ((with_reducible refine aw_drawnA T_ok ?_ ?_ ?_ ?_); (focus kernel_rfl); (focus kernel_rfl); (focus (decide +kernel)))
          | ((with_reducible refine aw_drawnF T_ok ?_ ?_ ?_ ?_); (focus kernel_rfl); (focus kernel_rfl); (focus (decide +kernel)))
          | ((with_reducible refine callK_intro (s1) (by with_unfolding_all rfl) ?_ ?_); (focus kernel_rfl))
          | ((with_reducible refine callI_spec (s1) (by with_unfolding_all rfl) ?_ ?_ ?_); (focus kernel_rfl); (focus kernel_rfl))
          | (with_reducible refine aw_label ?_)
          | ((with_reducible refine aw_rfM ?_ ?_); (focus kernel_rfl))
          | (with_reducible refine aw_skip ?_)
          | (with_reducible refine aw_exit ?_)
          | ((with_reducible refine aw_condM ?_ ?_); (focus kernel_rfl))
          | (with_reducible refine aw_ret ?_)
        ); simp only [↓avP, avQ, if_true, if_false, forall_const, beq_self_eq_true, eq_self, ne_eq, implies_true, reduceIte, Nat.reduceEqDiff, Nat.reduceAdd, Nat.reduceSub, Int.reduceToNat, Nat.reduceLeDiff, Nat.reduceLT, reduceCtorEq, Int.reduceEq, retQ, retL, resV, RetV, RetOk, SubL, intD_B, lotD_B, flowD_B, snocI, snocL, ty_3, ty_27, ty_4, ty_24, ty_40, ty_22, ty_31, issD_get, hd, g2]; try simp (disch := omega) only [av_w, av_t1, av_tp, Int.toNat_natCast]))
    refine ⟨k + 1, ⟨by omega, fun i hi => by rcases Nat.lt_succ_iff_lt_or_eq.1 hi with h | rfl; exact h0 i h; exact e2⟩, by dsimp only; omega, wk_of [] rfl rfl ?_ ?_⟩
    · simp only [wkT, wkB, wkB1, subV, subVs, subD, subB, lkN_n, lkN_c, lkT_n, lkT_c, lkB_n, lkB_c, if_true, if_false, reduceIte, Nat.reduceEqDiff, true_and, and_true, and_self, inT, ofA]
      (repeat' (first | exact trivial | rfl | exact rfl | exact subVs_d _ _ | exact subVs_dm _ _ | exact subD_refl _ | refine And.intro ?_ ?_))
    · simp only [wkT, wkB, wkB1, subV, subVs, subD, subB, lkN_n, lkN_c, lkT_n, lkT_c, lkB_n, lkB_c, if_true, if_false, reduceIte, Nat.reduceEqDiff, true_and, and_true, and_self, inT, ofA]
      (repeat' (first | exact trivial | rfl | exact rfl | exact subVs_d _ _ | exact subVs_dm _ _ | exact subD_refl _ | refine And.intro ?_ ?_))
  · obtain rfl : k = a.length := by omega
    have hd := ged (Nat.le_refl a.length)
    repeat' (first
      | (with_reducible refine aw_seq ?_)
      | ((with_reducible refine twoG_intro ?_ ?_) <;> intro hTw <;> first | (exact Bool.noConfusion hTw) | ((try simp only [hTw, Bool.not_true, Bool.not_false, Bool.true_and, Bool.false_and, Bool.and_true, Bool.and_false, Bool.true_or, Bool.false_or, Bool.or_true, Bool.or_false]); (first | (guard_hyp hTw : true = true; clear hTw) | (guard_hyp hTw : false = false; clear hTw) | (revert hTw; intro _))))
      | ((with_reducible refine two_intro ?_ ?_) <;> intro hTw <;> first | (exact Bool.noConfusion hTw) | ((first | (guard_hyp hTw : true = true; clear hTw) | (guard_hyp hTw : false = false; clear hTw) | (revert hTw; intro _))))
      | ((with_reducible refine And.intro ?_ ?_); (focus (first | omega | rfl | decide | grind)))
      | (with_reducible refine aw_block ?_)
      | (with_reducible refine aw_scope ?_)
      | ((first
          | ((with_reducible refine aw_regionA T_ok ?_ ?_); (focus kernel_rfl))
          | ((with_reducible refine aw_drawnA T_ok ?_ ?_ ?_ ?_); (focus kernel_rfl); (focus kernel_rfl); (focus (decide +kernel)))
          | ((with_reducible refine aw_drawnF T_ok ?_ ?_ ?_ ?_); (focus kernel_rfl); (focus kernel_rfl); (focus (decide +kernel)))
          | (with_reducible refine aw_label ?_)
          | ((with_reducible refine aw_rfM ?_ ?_); (focus kernel_rfl))
          | (with_reducible refine aw_skip ?_)
          | (with_reducible refine aw_exit ?_)
          | ((with_reducible refine aw_condM ?_ ?_); (focus kernel_rfl))
          | (with_reducible refine aw_ret ?_)
        ); simp only [↓avP, avQ, if_true, if_false, forall_const, beq_self_eq_true, eq_self, ne_eq, implies_true, reduceIte, Nat.reduceEqDiff, Nat.reduceAdd, Nat.reduceSub, Int.reduceToNat, Nat.reduceLeDiff, Nat.reduceLT, reduceCtorEq, Int.reduceEq, retQ, retL, resV, RetV, RetOk, SubL, intD_B, lotD_B, flowD_B, snocI, snocL, ty_3, ty_27, ty_4, ty_24, ty_40, ty_22, ty_31, issD_get, hd]; try simp (disch := omega) only [av_w, av_t1, av_tp, Int.toNat_natCast]))
    exact Sub.of_eq (congrArg aB (decide_eq_true (lists_ext h2 h0)).symm)
def fewW (f : FlowP) : Bool := fewF f && decide (f.lots.length ≤ 12) && (decide (f.senders ≤ 12) || decide (f.senders > 64))
theorem qwfew_spec (f : FlowP) (hl : f.lots.length ≤ 140737488351232) : Spec Try.prog 11 [.agg (flowD f)] (.r1 (aB (fewW f))) := by
  refine spec_of T_ok Try.func11 (by dsimp only [Try.f11]) rfl rfl (by simp) fun w F => ?_
  have h := ffew_spec f hl
  cases h1 : fewF f with
  | false =>
    rw [h1] at h
    repeat' (first
      | (with_reducible refine aw_seq ?_)
      | ((with_reducible refine twoG_intro ?_ ?_) <;> intro hTw <;> first | (exact Bool.noConfusion hTw) | ((try simp only [hTw, Bool.not_true, Bool.not_false, Bool.true_and, Bool.false_and, Bool.and_true, Bool.and_false, Bool.true_or, Bool.false_or, Bool.or_true, Bool.or_false]); (first | (guard_hyp hTw : true = true; clear hTw) | (guard_hyp hTw : false = false; clear hTw) | (revert hTw; intro _))))
      | ((with_reducible refine two_intro ?_ ?_) <;> intro hTw <;> first | (exact Bool.noConfusion hTw) | ((first | (guard_hyp hTw : true = true; clear hTw) | (guard_hyp hTw : false = false; clear hTw) | (revert hTw; intro _))))
      | ((with_reducible refine And.intro ?_ ?_); (focus (first | omega | rfl | decide | grind)))
      | (with_reducible refine aw_block ?_)
      | (with_reducible refine aw_scope ?_)
      | ((first
          | ((with_reducible refine aw_regionA T_ok ?_ ?_); (focus kernel_rfl))
          | ((with_reducible refine aw_drawnA T_ok ?_ ?_ ?_ ?_); (focus kernel_rfl); (focus kernel_rfl); (focus (decide +kernel)))
          | ((with_reducible refine aw_drawnF T_ok ?_ ?_ ?_ ?_); (focus kernel_rfl); (focus kernel_rfl); (focus (decide +kernel)))
          | ((with_reducible refine callK_intro (h) (by with_unfolding_all rfl) ?_ ?_); (focus kernel_rfl))
          | ((with_reducible refine callI_spec (h) (by with_unfolding_all rfl) ?_ ?_ ?_); (focus kernel_rfl); (focus kernel_rfl))
          | (with_reducible refine aw_label ?_)
          | ((with_reducible refine aw_rfM ?_ ?_); (focus kernel_rfl))
          | (with_reducible refine aw_skip ?_)
          | (with_reducible refine aw_exit ?_)
          | ((with_reducible refine aw_condM ?_ ?_); (focus kernel_rfl))
          | (with_reducible refine aw_ret ?_)
        ); simp only [↓avP, avQ, if_true, if_false, forall_const, beq_self_eq_true, eq_self, ne_eq, implies_true, reduceIte, Nat.reduceEqDiff, Nat.reduceAdd, Nat.reduceSub, Int.reduceToNat, Nat.reduceLeDiff, Nat.reduceLT, reduceCtorEq, Int.reduceEq, retQ, retL, resV, RetV, RetOk, SubL, intD_B, lotD_B, flowD_B, snocI, snocL, ty_3, ty_27, ty_4, ty_24, ty_40, ty_22, ty_31, issD_get]; try simp (disch := omega) only [av_w, av_t1, av_tp, Int.toNat_natCast]))
    all_goals exact Sub.of_eq (congrArg aB (by simp [fewW, h1]))
  | true =>
    rw [h1] at h
    repeat' (first
      | (with_reducible refine aw_seq ?_)
      | ((with_reducible refine twoG_intro ?_ ?_) <;> intro hTw <;> first | (exact Bool.noConfusion hTw) | ((try simp only [hTw, Bool.not_true, Bool.not_false, Bool.true_and, Bool.false_and, Bool.and_true, Bool.and_false, Bool.true_or, Bool.false_or, Bool.or_true, Bool.or_false]); (first | (guard_hyp hTw : true = true; clear hTw) | (guard_hyp hTw : false = false; clear hTw) | (revert hTw; intro _))))
      | ((with_reducible refine two_intro ?_ ?_) <;> intro hTw <;> first | (exact Bool.noConfusion hTw) | ((first | (guard_hyp hTw : true = true; clear hTw) | (guard_hyp hTw : false = false; clear hTw) | (revert hTw; intro _))))
      | ((with_reducible refine And.intro ?_ ?_); (focus (first | omega | rfl | decide | grind)))
      | (with_reducible refine aw_block ?_)
      | (with_reducible refine aw_scope ?_)
      | ((first
          | ((with_reducible refine aw_regionA T_ok ?_ ?_); (focus kernel_rfl))
          | ((with_reducible refine aw_drawnA T_ok ?_ ?_ ?_ ?_); (focus kernel_rfl); (focus kernel_rfl); (focus (decide +kernel)))
          | ((with_reducible refine aw_drawnF T_ok ?_ ?_ ?_ ?_); (focus kernel_rfl); (focus kernel_rfl); (focus (decide +kernel)))
          | ((with_reducible refine callK_intro (h) (by with_unfolding_all rfl) ?_ ?_); (focus kernel_rfl))
          | ((with_reducible refine callI_spec (h) (by with_unfolding_all rfl) ?_ ?_ ?_); (focus kernel_rfl); (focus kernel_rfl))
          | (with_reducible refine aw_label ?_)
          | ((with_reducible refine aw_rfM ?_ ?_); (focus kernel_rfl))
          | (with_reducible refine aw_skip ?_)
          | (with_reducible refine aw_exit ?_)
          | ((with_reducible refine aw_condM ?_ ?_); (focus kernel_rfl))
          | (with_reducible refine aw_ret ?_)
        ); simp only [↓avP, avQ, if_true, if_false, forall_const, beq_self_eq_true, eq_self, ne_eq, implies_true, reduceIte, Nat.reduceEqDiff, Nat.reduceAdd, Nat.reduceSub, Int.reduceToNat, Nat.reduceLeDiff, Nat.reduceLT, reduceCtorEq, Int.reduceEq, retQ, retL, resV, RetV, RetOk, SubL, intD_B, lotD_B, flowD_B, snocI, snocL, ty_3, ty_27, ty_4, ty_24, ty_40, ty_22, ty_31, issD_get]; try simp (disch := omega) only [av_w, av_t1, av_tp, Int.toNat_natCast]))
    all_goals exact Sub.of_eq (congrArg aB (by simp only [fewW, h1, Bool.true_and, show decide ((f.lots.length : Int) ≤ 12) = decide (f.lots.length ≤ 12) from by rw [decide_eq_decide]; omega]))
def validW (f : FlowP) : Bool := fewW f && (checkF f == 0)
theorem wvalid_spec (f : FlowP) (hf : OkF f) : Spec Try.prog 20 [.agg (flowD f)] (.r1 (aB (validW f))) := by
  refine spec_of T_ok Try.func20 (by dsimp only [Try.f20]) rfl rfl (by simp) fun w F => ?_
  have h := qwfew_spec f hf.l
  have hc := qfcheck_spec f hf
  cases h1 : fewW f with
  | false =>
    rw [h1] at h
    repeat' (first
      | (with_reducible refine aw_seq ?_)
      | ((with_reducible refine twoG_intro ?_ ?_) <;> intro hTw <;> first | (exact Bool.noConfusion hTw) | ((try simp only [hTw, Bool.not_true, Bool.not_false, Bool.true_and, Bool.false_and, Bool.and_true, Bool.and_false, Bool.true_or, Bool.false_or, Bool.or_true, Bool.or_false]); (first | (guard_hyp hTw : true = true; clear hTw) | (guard_hyp hTw : false = false; clear hTw) | (revert hTw; intro _))))
      | ((with_reducible refine two_intro ?_ ?_) <;> intro hTw <;> first | (exact Bool.noConfusion hTw) | ((first | (guard_hyp hTw : true = true; clear hTw) | (guard_hyp hTw : false = false; clear hTw) | (revert hTw; intro _))))
      | ((with_reducible refine And.intro ?_ ?_); (focus (first | omega | rfl | decide | grind)))
      | (with_reducible refine aw_block ?_)
      | (with_reducible refine aw_scope ?_)
      | ((first
          | ((with_reducible refine aw_regionA T_ok ?_ ?_); (focus kernel_rfl))
          | ((with_reducible refine aw_drawnA T_ok ?_ ?_ ?_ ?_); (focus kernel_rfl); (focus kernel_rfl); (focus (decide +kernel)))
          | ((with_reducible refine aw_drawnF T_ok ?_ ?_ ?_ ?_); (focus kernel_rfl); (focus kernel_rfl); (focus (decide +kernel)))
          | ((with_reducible refine callK_intro (h) (by with_unfolding_all rfl) ?_ ?_); (focus kernel_rfl))
          | ((with_reducible refine callI_spec (h) (by with_unfolding_all rfl) ?_ ?_ ?_); (focus kernel_rfl); (focus kernel_rfl))
          | ((with_reducible refine callK_skip (.r1 (aI 0)) (by with_unfolding_all rfl) ?_ ?_); (focus kernel_rfl))
          | (with_reducible refine aw_label ?_)
          | ((with_reducible refine aw_rfM ?_ ?_); (focus kernel_rfl))
          | (with_reducible refine aw_skip ?_)
          | (with_reducible refine aw_exit ?_)
          | ((with_reducible refine aw_condM ?_ ?_); (focus kernel_rfl))
          | (with_reducible refine aw_ret ?_)
        ); simp only [↓avP, avQ, if_true, if_false, forall_const, beq_self_eq_true, eq_self, ne_eq, implies_true, reduceIte, Nat.reduceEqDiff, Nat.reduceAdd, Nat.reduceSub, Int.reduceToNat, Nat.reduceLeDiff, Nat.reduceLT, reduceCtorEq, Int.reduceEq, retQ, retL, resV, RetV, RetOk, SubL, intD_B, lotD_B, flowD_B, snocI, snocL, ty_3, ty_27, ty_4, ty_24, ty_40, ty_22, ty_31, issD_get]; try simp (disch := omega) only [av_w, av_t1, av_tp, Int.toNat_natCast]))
    all_goals exact Sub.of_eq (congrArg aB (by simp [validW, h1]))
  | true =>
    rw [h1] at h
    repeat' (first
      | (with_reducible refine aw_seq ?_)
      | ((with_reducible refine twoG_intro ?_ ?_) <;> intro hTw <;> first | (exact Bool.noConfusion hTw) | ((try simp only [hTw, Bool.not_true, Bool.not_false, Bool.true_and, Bool.false_and, Bool.and_true, Bool.and_false, Bool.true_or, Bool.false_or, Bool.or_true, Bool.or_false]); (first | (guard_hyp hTw : true = true; clear hTw) | (guard_hyp hTw : false = false; clear hTw) | (revert hTw; intro _))))
      | ((with_reducible refine two_intro ?_ ?_) <;> intro hTw <;> first | (exact Bool.noConfusion hTw) | ((first | (guard_hyp hTw : true = true; clear hTw) | (guard_hyp hTw : false = false; clear hTw) | (revert hTw; intro _))))
      | ((with_reducible refine And.intro ?_ ?_); (focus (first | omega | rfl | decide | grind)))
      | (with_reducible refine aw_block ?_)
      | (with_reducible refine aw_scope ?_)
      | ((first
          | ((with_reducible refine aw_regionA T_ok ?_ ?_); (focus kernel_rfl))
          | ((with_reducible refine aw_drawnA T_ok ?_ ?_ ?_ ?_); (focus kernel_rfl); (focus kernel_rfl); (focus (decide +kernel)))
          | ((with_reducible refine aw_drawnF T_ok ?_ ?_ ?_ ?_); (focus kernel_rfl); (focus kernel_rfl); (focus (decide +kernel)))
          | ((with_reducible refine callK_intro (h) (by with_unfolding_all rfl) ?_ ?_); (focus kernel_rfl))
          | ((with_reducible refine callI_spec (h) (by with_unfolding_all rfl) ?_ ?_ ?_); (focus kernel_rfl); (focus kernel_rfl))
          | ((with_reducible refine callK_intro (hc) (by with_unfolding_all rfl) ?_ ?_); (focus kernel_rfl))
          | ((with_reducible refine callI_spec (hc) (by with_unfolding_all rfl) ?_ ?_ ?_); (focus kernel_rfl); (focus kernel_rfl))
          | (with_reducible refine aw_label ?_)
          | ((with_reducible refine aw_rfM ?_ ?_); (focus kernel_rfl))
          | (with_reducible refine aw_skip ?_)
          | (with_reducible refine aw_exit ?_)
          | ((with_reducible refine aw_condM ?_ ?_); (focus kernel_rfl))
          | (with_reducible refine aw_ret ?_)
        ); simp only [↓avP, avQ, if_true, if_false, forall_const, beq_self_eq_true, eq_self, ne_eq, implies_true, reduceIte, Nat.reduceEqDiff, Nat.reduceAdd, Nat.reduceSub, Int.reduceToNat, Nat.reduceLeDiff, Nat.reduceLT, reduceCtorEq, Int.reduceEq, retQ, retL, resV, RetV, RetOk, SubL, intD_B, lotD_B, flowD_B, snocI, snocL, ty_3, ty_27, ty_4, ty_24, ty_40, ty_22, ty_31, issD_get]; try simp (disch := omega) only [av_w, av_t1, av_tp, Int.toNat_natCast]))
    all_goals exact Sub.of_eq (congrArg aB (by simp [validW, h1]))
end Go.Proofs.Ytncihbmehbiekaa

