import Derived.Test.YtncihbmehbiekaaRB20
import Derived.Test.YtncihbmehbiekaaRB19
namespace Go.Proofs.Ytncihbmehbiekaa
set_option linter.unusedSimpArgs false
set_option linter.unusedVariables false
open Go.RowKit
set_option maxRecDepth 100000
set_option maxHeartbeats 4000000
theorem view_fin {f : FlowP} {lines : List (List Int)} {coal : List Int} (hc : checkF f = 0) (hk : knownF f = true) (hl : linesB lines f.lots.length = true) (m : Int) : FinF (vF f lines coal) (vF f lines (grtL coal m 24)) := by
  have e1 : (vF f lines coal).lots.length = f.lots.length := viewAt_len _ _ _ _
  refine ⟨rfl, by rw [e1]; exact viewAt_len _ _ _ _, fun k hk' => ?_⟩
  rw [e1] at hk'
  rw [show (vF f lines coal).lots.getD k default = _ from viewAt_get hk', show (vF f lines (grtL coal m 24)).lots.getD k default = _ from viewAt_get hk']
  by_cases h : seesB lines coal k = true
  · rw [viewL, viewL, if_pos h, if_pos (sees_more hl hk' h)]
    exact .inl rfl
  · rw [viewL, viewL, if_neg h]
    by_cases h2 : seesB lines (grtL coal m 24) k = true
    · rw [if_pos h2]
      exact .inr ⟨rfl, knownF_at hk hk', rfl, (goodL_at hc hk').pl (knownF_at hk hk')⟩
    · rw [if_neg h2]; exact .inl rfl
def setF (f : FlowP) (ps : List Nat) (k : Nat) : FlowP := ⟨f.senders, f.lots.set k ((wayF f ps).lots.getD k default)⟩
theorem setF_at {f : FlowP} {ps : List Nat} {k j : Nat} (hj : j < f.lots.length) : (setF f ps k).lots.getD j default = if j = k then (wayF f ps).lots.getD j default else f.lots.getD j default := by
  show (f.lots.set k _).getD j default = _
  by_cases h : j = k
  · subst h
    rw [if_pos rfl, List.getD, List.getElem?_set_self hj]; rfl
  · rw [if_neg h, List.getD, List.getElem?_set_ne (Ne.symm h)]; rfl
theorem setF_fin {f : FlowP} (ps : List Nat) (k : Nat) : FinF f (setF f ps k) := by
  refine ⟨rfl, by simp [setF], fun j hj => ?_⟩
  rw [setF_at hj]
  by_cases h : j = k
  · rw [if_pos h]; exact (wayF_fin f ps).lots j hj
  · rw [if_neg h]; exact .inl rfl
theorem okF_set {f : FlowP} (hf : OkF f) (ps : List Nat) (k : Nat) : OkF (setF f ps k) :=
  ⟨hf.s, by simpa [setF] using hf.l, fun x hx => by
    rcases List.mem_or_eq_of_mem_set (show x ∈ f.lots.set k _ from hx) with h | h
    · exact hf.lots x h
    · rw [h]; exact (okF_way hf ps).at k⟩
theorem lotr_get (L : List LotP) (j : Nat) : ((L.map lotD).map dV).getD j (dV (lotD default)) = dV (lotD (L.getD j default)) := by
  simp only [List.getD_eq_getElem?_getD, List.getElem?_map]
  cases L[j]? <;> rfl
theorem lotr_drop (x : LotP) : List.drop 3 (dV (lotD x)) = [] := rfl
theorem fl_t1 (f : FlowP) : List.take 1 (dV (flowD f)) = [vI f.senders] := rfl
theorem fl_d2 (f : FlowP) : List.drop 2 (dV (flowD f)) = [] := rfl
theorem lotr_set (L : List LotP) (k : Nat) (y : LotP) : ((L.map lotD).map dV).set k (dV (lotD y)) = ((L.set k y).map lotD).map dV := by
  rw [List.map_set, List.map_set]
theorem wlaw6_spec (f : FlowP) (ps : List Nat) (a : Int) (lines : List (List Int)) (coal : List Int) (m : Int) (hf : OkF f) (hp : ∀ p ∈ ps, p < 256) (hpl : ps.length ≤ 140737488351232) (ha : 0 ≤ a ∧ a ≤ 255) (hl : lines.length ≤ 140737488351232 ∧ ∀ x ∈ lines, OkI x) (hco : OkI coal) :
    Spec Try.prog 9 [.agg (flowD f), .one (.sl 1 (u8D 0) (ps.map u8D)), .one (.c (.int .u8 a)), aIss lines, aIs coal, aI m] (.r1 (aB true)) := by
  refine spec_of T_ok Try.func9 (by dsimp only [Try.f9]) rfl rfl (by simp) fun w F => ?_
  have hx : ∀ x ∈ lines, x.length ≤ 140737488351232 := fun x hx => (hl.2 x hx).1
  obtain ⟨hc1, hc2⟩ := hco
  obtain ⟨hl1, hl2⟩ := hl
  have hfl := hf.l
  have hV := wvalid_spec f hf
  cases hv : validW f with
  | false =>
    rw [hv] at hV
    repeat' (first
      | (with_reducible refine aw_seq ?_)
      | ((with_reducible refine twoG_intro ?_ ?_) <;> intro hTw <;> first | (exact Bool.noConfusion hTw) | ((try simp only [hTw, Bool.not_true, Bool.not_false, Bool.true_and, Bool.false_and, Bool.and_true, Bool.and_false, Bool.true_or, Bool.false_or, Bool.or_true, Bool.or_false]); (first | (guard_hyp hTw : true = true; clear hTw) | (guard_hyp hTw : false = false; clear hTw) | (revert hTw; intro _))))
      | ((with_reducible refine two_intro ?_ ?_) <;> intro hTw <;> first | (exact Bool.noConfusion hTw) | ((first | (guard_hyp hTw : true = true; clear hTw) | (guard_hyp hTw : false = false; clear hTw) | (revert hTw; intro _))))
      | ((with_reducible refine And.intro ?_ ?_); (focus (first | omega | rfl | decide | grind)))
      | (with_reducible refine aw_block ?_)
      | (with_reducible refine aw_scope ?_)
      | ((first
          | ((with_reducible refine aw_regionA T_ok ?_ ?_); (focus kernel_rfl))
          | ((with_reducible refine aw_drawnA T_ok ?_ ?_ ?_ ?_); (focus kernel_rfl); (focus kernel_rfl); (focus (decide +kernel)))
          | ((with_reducible refine aw_drawnF T_ok ?_ ?_ ?_ ?_); (focus kernel_rfl); (focus kernel_rfl); (focus (decide +kernel)))
          | ((with_reducible refine callK_intro (wsane_spec) (by with_unfolding_all rfl) ?_ ?_); (focus kernel_rfl))
          | ((with_reducible refine callI_spec (wsane_spec) (by with_unfolding_all rfl) ?_ ?_ ?_); (focus kernel_rfl); (focus kernel_rfl))
          | ((with_reducible refine callK_intro (hV) (by with_unfolding_all rfl) ?_ ?_); (focus kernel_rfl))
          | ((with_reducible refine callI_spec (hV) (by with_unfolding_all rfl) ?_ ?_ ?_); (focus kernel_rfl); (focus kernel_rfl))
          | (with_reducible refine aw_label ?_)
          | ((with_reducible refine aw_rfM ?_ ?_); (focus kernel_rfl))
          | (with_reducible refine aw_skip ?_)
          | (with_reducible refine aw_exit ?_)
          | ((with_reducible refine aw_condM ?_ ?_); (focus kernel_rfl))
          | (with_reducible refine aw_ret ?_)
        ); simp only [↓avP, avQ, if_true, if_false, forall_const, beq_self_eq_true, eq_self, ne_eq, implies_true, reduceIte, Nat.reduceEqDiff, Nat.reduceAdd, Nat.reduceSub, Int.reduceToNat, Nat.reduceLeDiff, Nat.reduceLT, reduceCtorEq, Int.reduceEq, retQ, retL, resV, RetV, RetOk, SubL, intD_B, u8D_B, lotD_B, flowD_B, snocI, snocL, lotr_get, lotr_drop, lotr_set, fl_t1, fl_d2, ty_3, ty_5, ty_42, ty_27, ty_4, ty_24, ty_40, ty_22, ty_31, issD_get]; try simp (disch := omega) only [av_w, av_t1, av_tp, Int.toNat_natCast]))
    all_goals exact Sub.refl _
  | true =>
  rw [hv] at hV
  have hc := (validW_check hv).1
  have hl12 := (validW_check hv).2.2
  obtain ⟨z1, z2, z3, z4, z5⟩ := checkF_zero hc
  by_cases hsm : f.lots.length ≠ 0 ∧ lines.length ≤ 12
  rotate_left
  · have hd : (((f.lots.length : Int) == 0) || decide ((lines.length : Int) > 12)) = true := by
      rw [Bool.or_eq_true, beq_iff_eq, decide_eq_true_eq]; omega
    repeat' (first
      | (with_reducible refine aw_seq ?_)
      | ((with_reducible refine twoG_intro ?_ ?_) <;> intro hTw <;> first | (exact Bool.noConfusion hTw) | ((try simp only [hTw, Bool.not_true, Bool.not_false, Bool.true_and, Bool.false_and, Bool.and_true, Bool.and_false, Bool.true_or, Bool.false_or, Bool.or_true, Bool.or_false]); (first | (guard_hyp hTw : true = true; clear hTw) | (guard_hyp hTw : false = false; clear hTw) | (revert hTw; intro _))))
      | ((with_reducible refine two_intro ?_ ?_) <;> intro hTw <;> first | (exact Bool.noConfusion hTw) | ((first | (guard_hyp hTw : true = true; clear hTw) | (guard_hyp hTw : false = false; clear hTw) | (revert hTw; intro _))))
      | ((with_reducible refine And.intro ?_ ?_); (focus (first | omega | rfl | decide | grind)))
      | (with_reducible refine aw_block ?_)
      | (with_reducible refine aw_scope ?_)
      | ((first
          | ((with_reducible refine aw_regionA T_ok ?_ ?_); (focus kernel_rfl))
          | ((with_reducible refine aw_drawnA T_ok ?_ ?_ ?_ ?_); (focus kernel_rfl); (focus kernel_rfl); (focus (decide +kernel)))
          | ((with_reducible refine aw_drawnF T_ok ?_ ?_ ?_ ?_); (focus kernel_rfl); (focus kernel_rfl); (focus (decide +kernel)))
          | ((with_reducible refine callK_intro (wsane_spec) (by with_unfolding_all rfl) ?_ ?_); (focus kernel_rfl))
          | ((with_reducible refine callI_spec (wsane_spec) (by with_unfolding_all rfl) ?_ ?_ ?_); (focus kernel_rfl); (focus kernel_rfl))
          | ((with_reducible refine callK_intro (hV) (by with_unfolding_all rfl) ?_ ?_); (focus kernel_rfl))
          | ((with_reducible refine callI_spec (hV) (by with_unfolding_all rfl) ?_ ?_ ?_); (focus kernel_rfl); (focus kernel_rfl))
          | (with_reducible refine aw_label ?_)
          | ((with_reducible refine aw_rfM ?_ ?_); (focus kernel_rfl))
          | (with_reducible refine aw_skip ?_)
          | (with_reducible refine aw_exit ?_)
          | ((with_reducible refine aw_condM ?_ ?_); (focus kernel_rfl))
          | (with_reducible refine aw_ret ?_)
        ); simp only [↓avP, avQ, if_true, if_false, forall_const, beq_self_eq_true, eq_self, ne_eq, implies_true, reduceIte, Nat.reduceEqDiff, Nat.reduceAdd, Nat.reduceSub, Int.reduceToNat, Nat.reduceLeDiff, Nat.reduceLT, reduceCtorEq, Int.reduceEq, retQ, retL, resV, RetV, RetOk, SubL, intD_B, u8D_B, lotD_B, flowD_B, snocI, snocL, lotr_get, lotr_drop, lotr_set, fl_t1, fl_d2, ty_3, ty_5, ty_42, ty_27, ty_4, ty_24, ty_40, ty_22, ty_31, issD_get, hd]; try simp (disch := omega) only [av_w, av_t1, av_tp, Int.toNat_natCast]))
    all_goals exact Sub.refl _
  obtain ⟨hn0, hn12⟩ := hsm
  have hd0 : ((f.lots.length : Int) == 0) = false := by rw [beq_eq_false_iff_ne]; omega
  have hd1 : decide ((lines.length : Int) > 12) = false := decide_eq_false (by omega)
  have hW := wway_spec f ps hf hc hp hpl
  obtain ⟨k, hk⟩ : ∃ k, k = a.toNat % f.lots.length := ⟨_, rfl⟩
  have hkl : k < f.lots.length := by rw [hk]; exact Nat.mod_lt _ (by omega)
  have hkt : (IntKind.i64.wrap a).tmod (f.lots.length : Int) = (k : Int) := by
    rw [av_w (by omega), hk, Int.tmod_eq_emod_of_nonneg (by omega), Int.natCast_emod]
    congr 1; omega
  have hat : (wayF f ps).lots.length = f.lots.length := wayA_len _ _ _
  have hw1 := wwithin_spec (setF f ps k) f (okF_set hf ps k) hf hc (setF_fin ps k)
  have hfin := wayF_fin f ps
  have hcg := hfin.check hc
  have hkg := wayF_known f ps
  have hog := okF_way hf ps
  obtain ⟨G, hG⟩ : ∃ G, G = wayF f ps := ⟨_, rfl⟩
  have hst : setF f ps k = ⟨f.senders, f.lots.set k (G.lots.getD k default)⟩ := by rw [hG]; rfl
  rw [← hG] at hW hat hcg hkg hog
  rw [hst] at hw1
  have hLn := qlines_spec lines f.lots.length hl1 hx
  have hCo := qcoal_spec coal hc1
  repeat' (first
    | (with_reducible refine aw_seq ?_)
    | (with_reducible refine aw_stop (id := 10) ?_)
    | ((with_reducible refine twoG_intro ?_ ?_) <;> intro hTw <;> first | (exact Bool.noConfusion hTw) | ((try simp only [hTw, Bool.not_true, Bool.not_false, Bool.true_and, Bool.false_and, Bool.and_true, Bool.and_false, Bool.true_or, Bool.false_or, Bool.or_true, Bool.or_false]); (first | (guard_hyp hTw : true = true; clear hTw) | (guard_hyp hTw : false = false; clear hTw) | (revert hTw; intro _))))
    | ((with_reducible refine two_intro ?_ ?_) <;> intro hTw <;> first | (exact Bool.noConfusion hTw) | ((first | (guard_hyp hTw : true = true; clear hTw) | (guard_hyp hTw : false = false; clear hTw) | (revert hTw; intro _))))
    | ((with_reducible refine And.intro ?_ ?_); (focus (first | omega | rfl | decide | grind)))
    | (with_reducible refine aw_block ?_)
    | (with_reducible refine aw_scope ?_)
    | ((first
        | ((with_reducible refine aw_regionU (id := 8) 1 3 (dV (lotD default)) T_ok ?_ ?_); (focus kernel_rfl); (dsimp only [List.take, List.drop, List.toList_toArray]))
        | ((with_reducible refine aw_regionA T_ok ?_ ?_); (focus kernel_rfl))
        | ((with_reducible refine aw_drawnA T_ok ?_ ?_ ?_ ?_); (focus kernel_rfl); (focus kernel_rfl); (focus (decide +kernel)))
        | ((with_reducible refine aw_drawnF T_ok ?_ ?_ ?_ ?_); (focus kernel_rfl); (focus kernel_rfl); (focus (decide +kernel)))
        | ((with_reducible refine callK_intro (wsane_spec) (by with_unfolding_all rfl) ?_ ?_); (focus kernel_rfl))
        | ((with_reducible refine callI_spec (wsane_spec) (by with_unfolding_all rfl) ?_ ?_ ?_); (focus kernel_rfl); (focus kernel_rfl))
        | ((with_reducible refine callK_intro (hV) (by with_unfolding_all rfl) ?_ ?_); (focus kernel_rfl))
        | ((with_reducible refine callI_spec (hV) (by with_unfolding_all rfl) ?_ ?_ ?_); (focus kernel_rfl); (focus kernel_rfl))
        | ((with_reducible refine callK_intro (hW) (by with_unfolding_all rfl) ?_ ?_); (focus kernel_rfl))
        | ((with_reducible refine callI_spec (hW) (by with_unfolding_all rfl) ?_ ?_ ?_); (focus kernel_rfl); (focus kernel_rfl))
        | (with_reducible refine aw_label ?_)
        | ((with_reducible refine aw_rfM ?_ ?_); (focus kernel_rfl))
        | (with_reducible refine aw_skip ?_)
        | (with_reducible refine aw_exit ?_)
        | ((with_reducible refine aw_condM ?_ ?_); (focus kernel_rfl))
        | (with_reducible refine aw_ret ?_)
      ); simp only [↓avP, avQ, if_true, if_false, forall_const, beq_self_eq_true, eq_self, ne_eq, implies_true, reduceIte, Nat.reduceEqDiff, Nat.reduceAdd, Nat.reduceSub, Int.reduceToNat, Nat.reduceLeDiff, Nat.reduceLT, reduceCtorEq, Int.reduceEq, untK.eq_def, untS, untV, retQ, retL, resV, RetV, RetOk, SubL, intD_B, u8D_B, lotD_B, flowD_B, snocI, snocL, lotr_get, lotr_drop, lotr_set, fl_t1, fl_d2, ty_3, ty_5, ty_42, ty_27, ty_4, ty_24, ty_40, ty_22, ty_31, issD_get, hd0, hd1, hkt]; try simp (disch := omega) only [av_w, av_t1, av_tp, Int.toNat_natCast]))
  refine ⟨?_⟩
  refine aw_frzD 4 (lotD default) ((f.lots.set k (G.lots.getD k default)).map lotD) rfl rfl ?_
  simp only [frzS, frzM, frzK, frz1, frz2, frz_dV, List.map_cons, List.map_nil, setB, reduceIte, Nat.reduceEqDiff]
  repeat' (first
    | (with_reducible refine aw_seq ?_)
    | ((with_reducible refine twoG_intro ?_ ?_) <;> intro hTw <;> first | (exact Bool.noConfusion hTw) | ((try simp only [hTw, Bool.not_true, Bool.not_false, Bool.true_and, Bool.false_and, Bool.and_true, Bool.and_false, Bool.true_or, Bool.false_or, Bool.or_true, Bool.or_false]); (first | (guard_hyp hTw : true = true; clear hTw) | (guard_hyp hTw : false = false; clear hTw) | (revert hTw; intro _))))
    | ((with_reducible refine two_intro ?_ ?_) <;> intro hTw <;> first | (exact Bool.noConfusion hTw) | ((first | (guard_hyp hTw : true = true; clear hTw) | (guard_hyp hTw : false = false; clear hTw) | (revert hTw; intro _))))
    | ((with_reducible refine And.intro ?_ ?_); (focus (first | omega | rfl | decide | grind)))
    | (with_reducible refine aw_block ?_)
    | (with_reducible refine aw_scope ?_)
    | ((first
        | ((with_reducible refine aw_regionA T_ok ?_ ?_); (focus kernel_rfl))
        | ((with_reducible refine aw_drawnA T_ok ?_ ?_ ?_ ?_); (focus kernel_rfl); (focus kernel_rfl); (focus (decide +kernel)))
        | ((with_reducible refine aw_drawnF T_ok ?_ ?_ ?_ ?_); (focus kernel_rfl); (focus kernel_rfl); (focus (decide +kernel)))
        | ((with_reducible refine callK_intro (hw1) (by with_unfolding_all rfl) ?_ ?_); (focus kernel_rfl))
        | ((with_reducible refine callI_spec (hw1) (by with_unfolding_all rfl) ?_ ?_ ?_); (focus kernel_rfl); (focus kernel_rfl))
        | (with_reducible refine aw_label ?_)
        | ((with_reducible refine aw_rfM ?_ ?_); (focus kernel_rfl))
        | (with_reducible refine aw_skip ?_)
        | (with_reducible refine aw_exit ?_)
        | ((with_reducible refine aw_condM ?_ ?_); (focus kernel_rfl))
        | (with_reducible refine aw_ret ?_)
      ); simp only [↓avP, avQ, if_true, if_false, forall_const, beq_self_eq_true, eq_self, ne_eq, implies_true, reduceIte, Nat.reduceEqDiff, Nat.reduceAdd, Nat.reduceSub, Int.reduceToNat, Nat.reduceLeDiff, Nat.reduceLT, reduceCtorEq, Int.reduceEq, retQ, retL, resV, RetV, RetOk, SubL, intD_B, u8D_B, lotD_B, flowD_B, snocI, snocL, lotr_get, lotr_drop, lotr_set, fl_t1, fl_d2, ty_3, ty_5, ty_42, ty_27, ty_4, ty_24, ty_40, ty_22, ty_31, issD_get]; try simp (disch := omega) only [av_w, av_t1, av_tp, Int.toNat_natCast]))
  have hH := fun p => has_spec coal p hc1
  refine aw_loopI (fun j : Nat => ⟨[(3, vIss lines), (4, vIs coal), (5, vI m), (6, .ptr 0 0), (14, .ptr 1 0), (16, .ow 2 1 (intD 0) ((grtL coal m j).map intD)), (66, vI j)], [(2, .tok 3 1 (grtL coal m j).length), (1, .cells 24 (dV (flowD G))), (0, .cells 24 (dV (flowD f)))], 3⟩)
    (fun j => j ≤ 24) (fun j => 24 - j) 0 (Nat.zero_le _) (wk_of [(0, some 0), (1, some 1), (2, none)] rfl rfl ?_ ?_) ?_
  · simp only [wkT, wkB, wkB1, subV, subVs, subD, subB, lkN_n, lkN_c, lkT_n, lkT_c, lkB_n, lkB_c, if_true, if_false, reduceIte, Nat.reduceEqDiff, true_and, and_true, and_self, inT, ofA]
    (repeat' (first | exact trivial | rfl | exact rfl | exact subVs_d _ _ | exact subVs_dm _ _ | exact subD_refl _ | refine And.intro ?_ ?_))
  · simp only [wkT, wkB, wkB1, subV, subVs, subD, subB, lkN_n, lkN_c, lkT_n, lkT_c, lkB_n, lkB_c, if_true, if_false, reduceIte, Nat.reduceEqDiff, true_and, and_true, and_self, inT, ofA]
    (repeat' (first | exact trivial | rfl | exact rfl | exact subVs_d _ _ | exact subVs_dm _ _ | exact subD_refl _ | refine And.intro ?_ ?_))
  intro j hj24
  have hg1 := grtL_len coal m j
  rcases Nat.lt_or_ge j 24 with hlt | hge
  · have hd : decide ((j : Int) < 24) = true := decide_eq_true (by omega)
    have h1 := hH (j : Int)
    have hs1 := grtL_succ coal m j
    have hgb : (((j : Int) == m) || decide ((j : Int) ∈ coal)) = grtB coal m j := by
      unfold grtB; rw [Bool.or_comm]; rfl
    cases hb : grtB coal m j with
    | true =>
      rw [hb] at hgb
      rw [if_pos hb] at hs1
      repeat' (first
        | (with_reducible refine aw_seq ?_)
        | ((with_reducible refine twoG_intro ?_ ?_) <;> intro hTw <;> first | (exact Bool.noConfusion hTw) | ((try simp only [hTw, Bool.not_true, Bool.not_false, Bool.true_and, Bool.false_and, Bool.and_true, Bool.and_false, Bool.true_or, Bool.false_or, Bool.or_true, Bool.or_false]); (first | (guard_hyp hTw : true = true; clear hTw) | (guard_hyp hTw : false = false; clear hTw) | (revert hTw; intro _))))
        | ((with_reducible refine two_intro ?_ ?_) <;> intro hTw <;> first | (exact Bool.noConfusion hTw) | ((first | (guard_hyp hTw : true = true; clear hTw) | (guard_hyp hTw : false = false; clear hTw) | (revert hTw; intro _))))
        | ((with_reducible refine And.intro ?_ ?_); (focus (first | omega | rfl | decide | grind)))
        | (with_reducible refine aw_block ?_)
        | (with_reducible refine aw_scope ?_)
        | ((first
            | ((with_reducible refine aw_regionA T_ok ?_ ?_); (focus kernel_rfl))
            | ((with_reducible refine aw_drawnA T_ok ?_ ?_ ?_ ?_); (focus kernel_rfl); (focus kernel_rfl); (focus (decide +kernel)))
            | ((with_reducible refine aw_drawnF T_ok ?_ ?_ ?_ ?_); (focus kernel_rfl); (focus kernel_rfl); (focus (decide +kernel)))
            | ((with_reducible refine callK_intro (h1) (by with_unfolding_all rfl) ?_ ?_); (focus kernel_rfl))
            | ((with_reducible refine callI_spec (h1) (by with_unfolding_all rfl) ?_ ?_ ?_); (focus kernel_rfl); (focus kernel_rfl))
            | (with_reducible refine aw_label ?_)
            | ((with_reducible refine aw_rfM ?_ ?_); (focus kernel_rfl))
            | (with_reducible refine aw_skip ?_)
            | (with_reducible refine aw_exit ?_)
            | ((with_reducible refine aw_condM ?_ ?_); (focus kernel_rfl))
            | (with_reducible refine aw_ret ?_)
          ); simp only [↓avP, avQ, if_true, if_false, forall_const, beq_self_eq_true, eq_self, ne_eq, implies_true, reduceIte, Nat.reduceEqDiff, Nat.reduceAdd, Nat.reduceSub, Int.reduceToNat, Nat.reduceLeDiff, Nat.reduceLT, reduceCtorEq, Int.reduceEq, retQ, retL, resV, RetV, RetOk, SubL, intD_B, u8D_B, lotD_B, flowD_B, snocI, snocL, lotr_get, lotr_drop, lotr_set, fl_t1, fl_d2, ty_3, ty_5, ty_42, ty_27, ty_4, ty_24, ty_40, ty_22, ty_31, issD_get, hd, hgb]; try simp (disch := omega) only [av_w, av_t1, av_tp, Int.toNat_natCast]))
      refine ⟨j + 1, by omega, by dsimp only; omega, wk_of [(0, some 0), (1, some 1), (2, some 4)] rfl rfl ?_ ?_⟩
      · simp only [wkT, wkB, wkB1, subV, subVs, subD, subB, lkN_n, lkN_c, lkT_n, lkT_c, lkB_n, lkB_c, if_true, if_false, reduceIte, Nat.reduceEqDiff, true_and, and_true, and_self, inT, ofA]
        rw [hs1]
        (repeat' (first | exact trivial | rfl | exact rfl | exact subVs_d _ _ | exact subVs_dm _ _ | exact subD_refl _ | refine And.intro ?_ ?_))
      · simp only [wkT, wkB, wkB1, subV, subVs, subD, subB, lkN_n, lkN_c, lkT_n, lkT_c, lkB_n, lkB_c, if_true, if_false, reduceIte, Nat.reduceEqDiff, true_and, and_true, and_self, inT, ofA]
        rw [hs1]
        (repeat' (first | ((simp; done)) | exact trivial | rfl | exact rfl | exact subVs_d _ _ | exact subVs_dm _ _ | exact subD_refl _ | refine And.intro ?_ ?_))
    | false =>
      rw [hb] at hgb
      rw [if_neg (by rw [hb]; simp)] at hs1
      repeat' (first
        | (with_reducible refine aw_seq ?_)
        | ((with_reducible refine twoG_intro ?_ ?_) <;> intro hTw <;> first | (exact Bool.noConfusion hTw) | ((try simp only [hTw, Bool.not_true, Bool.not_false, Bool.true_and, Bool.false_and, Bool.and_true, Bool.and_false, Bool.true_or, Bool.false_or, Bool.or_true, Bool.or_false]); (first | (guard_hyp hTw : true = true; clear hTw) | (guard_hyp hTw : false = false; clear hTw) | (revert hTw; intro _))))
        | ((with_reducible refine two_intro ?_ ?_) <;> intro hTw <;> first | (exact Bool.noConfusion hTw) | ((first | (guard_hyp hTw : true = true; clear hTw) | (guard_hyp hTw : false = false; clear hTw) | (revert hTw; intro _))))
        | ((with_reducible refine And.intro ?_ ?_); (focus (first | omega | rfl | decide | grind)))
        | (with_reducible refine aw_block ?_)
        | (with_reducible refine aw_scope ?_)
        | ((first
            | ((with_reducible refine aw_regionA T_ok ?_ ?_); (focus kernel_rfl))
            | ((with_reducible refine aw_drawnA T_ok ?_ ?_ ?_ ?_); (focus kernel_rfl); (focus kernel_rfl); (focus (decide +kernel)))
            | ((with_reducible refine aw_drawnF T_ok ?_ ?_ ?_ ?_); (focus kernel_rfl); (focus kernel_rfl); (focus (decide +kernel)))
            | ((with_reducible refine callK_intro (h1) (by with_unfolding_all rfl) ?_ ?_); (focus kernel_rfl))
            | ((with_reducible refine callI_spec (h1) (by with_unfolding_all rfl) ?_ ?_ ?_); (focus kernel_rfl); (focus kernel_rfl))
            | (with_reducible refine aw_label ?_)
            | ((with_reducible refine aw_rfM ?_ ?_); (focus kernel_rfl))
            | (with_reducible refine aw_skip ?_)
            | (with_reducible refine aw_exit ?_)
            | ((with_reducible refine aw_condM ?_ ?_); (focus kernel_rfl))
            | (with_reducible refine aw_ret ?_)
          ); simp only [↓avP, avQ, if_true, if_false, forall_const, beq_self_eq_true, eq_self, ne_eq, implies_true, reduceIte, Nat.reduceEqDiff, Nat.reduceAdd, Nat.reduceSub, Int.reduceToNat, Nat.reduceLeDiff, Nat.reduceLT, reduceCtorEq, Int.reduceEq, retQ, retL, resV, RetV, RetOk, SubL, intD_B, u8D_B, lotD_B, flowD_B, snocI, snocL, lotr_get, lotr_drop, lotr_set, fl_t1, fl_d2, ty_3, ty_5, ty_42, ty_27, ty_4, ty_24, ty_40, ty_22, ty_31, issD_get, hd, hgb]; try simp (disch := omega) only [av_w, av_t1, av_tp, Int.toNat_natCast]))
      refine ⟨j + 1, by omega, by dsimp only; omega, wk_of [(0, some 0), (1, some 1), (2, some 2)] rfl rfl ?_ ?_⟩
      · simp only [wkT, wkB, wkB1, subV, subVs, subD, subB, lkN_n, lkN_c, lkT_n, lkT_c, lkB_n, lkB_c, if_true, if_false, reduceIte, Nat.reduceEqDiff, true_and, and_true, and_self, inT, ofA]
        rw [hs1]
        (repeat' (first | exact trivial | rfl | exact rfl | exact subVs_d _ _ | exact subVs_dm _ _ | exact subD_refl _ | refine And.intro ?_ ?_))
      · simp only [wkT, wkB, wkB1, subV, subVs, subD, subB, lkN_n, lkN_c, lkT_n, lkT_c, lkB_n, lkB_c, if_true, if_false, reduceIte, Nat.reduceEqDiff, true_and, and_true, and_self, inT, ofA]
        rw [hs1]
        (repeat' (first | ((simp; done)) | exact trivial | rfl | exact rfl | exact subVs_d _ _ | exact subVs_dm _ _ | exact subD_refl _ | refine And.intro ?_ ?_))
  have hj' : j = 24 := by omega
  have hd : decide ((j : Int) < 24) = false := decide_eq_false (by omega)
  by_cases hlc : linesB lines f.lots.length = true ∧ coalB coal = true
  rotate_left
  · have hd2 : (!linesB lines f.lots.length || !coalB coal) = true := by
      cases h5 : linesB lines f.lots.length <;> cases h6 : coalB coal <;> simp_all
    repeat' (first
      | (with_reducible refine aw_seq ?_)
      | ((with_reducible refine twoG_intro ?_ ?_) <;> intro hTw <;> first | (exact Bool.noConfusion hTw) | ((try simp only [hTw, Bool.not_true, Bool.not_false, Bool.true_and, Bool.false_and, Bool.and_true, Bool.and_false, Bool.true_or, Bool.false_or, Bool.or_true, Bool.or_false]); (first | (guard_hyp hTw : true = true; clear hTw) | (guard_hyp hTw : false = false; clear hTw) | (revert hTw; intro _))))
      | ((with_reducible refine two_intro ?_ ?_) <;> intro hTw <;> first | (exact Bool.noConfusion hTw) | ((first | (guard_hyp hTw : true = true; clear hTw) | (guard_hyp hTw : false = false; clear hTw) | (revert hTw; intro _))))
      | ((with_reducible refine And.intro ?_ ?_); (focus (first | omega | rfl | decide | grind)))
      | (with_reducible refine aw_block ?_)
      | (with_reducible refine aw_scope ?_)
      | ((first
          | ((with_reducible refine aw_regionA T_ok ?_ ?_); (focus kernel_rfl))
          | ((with_reducible refine aw_drawnA T_ok ?_ ?_ ?_ ?_); (focus kernel_rfl); (focus kernel_rfl); (focus (decide +kernel)))
          | ((with_reducible refine aw_drawnF T_ok ?_ ?_ ?_ ?_); (focus kernel_rfl); (focus kernel_rfl); (focus (decide +kernel)))
          | ((with_reducible refine callK_intro (hLn) (by with_unfolding_all rfl) ?_ ?_); (focus kernel_rfl))
          | ((with_reducible refine callI_spec (hLn) (by with_unfolding_all rfl) ?_ ?_ ?_); (focus kernel_rfl); (focus kernel_rfl))
          | ((with_reducible refine callK_intro (hCo) (by with_unfolding_all rfl) ?_ ?_); (focus kernel_rfl))
          | ((with_reducible refine callI_spec (hCo) (by with_unfolding_all rfl) ?_ ?_ ?_); (focus kernel_rfl); (focus kernel_rfl))
          | (with_reducible refine aw_label ?_)
          | ((with_reducible refine aw_rfM ?_ ?_); (focus kernel_rfl))
          | (with_reducible refine aw_skip ?_)
          | (with_reducible refine aw_exit ?_)
          | ((with_reducible refine aw_condM ?_ ?_); (focus kernel_rfl))
          | (with_reducible refine aw_ret ?_)
        ); simp only [↓avP, avQ, if_true, if_false, forall_const, beq_self_eq_true, eq_self, ne_eq, implies_true, reduceIte, Nat.reduceEqDiff, Nat.reduceAdd, Nat.reduceSub, Int.reduceToNat, Nat.reduceLeDiff, Nat.reduceLT, reduceCtorEq, Int.reduceEq, retQ, retL, resV, RetV, RetOk, SubL, intD_B, u8D_B, lotD_B, flowD_B, snocI, snocL, lotr_get, lotr_drop, lotr_set, fl_t1, fl_d2, ty_3, ty_5, ty_42, ty_27, ty_4, ty_24, ty_40, ty_22, ty_31, issD_get, hd, hd2]; try simp (disch := omega) only [av_w, av_t1, av_tp, Int.toNat_natCast]))
    exact Sub.refl _
  obtain ⟨hln, hcc⟩ := hlc
  have hlg : linesB lines G.lots.length = true := by rw [hat]; exact hln
  have cg : coalB (grtL coal m j) = true := by rw [hj']; exact grtL_coal coal m
  obtain ⟨ea, ra⟩ := view_ok hcg hkg hlg hcc
  obtain ⟨eb, rb⟩ := view_ok hcg hkg hlg cg
  have hbnd : ∀ x ∈ grtL coal m j, -9223372036854775808 ≤ x ∧ x ≤ 9223372036854775807 := fun x hx => by
    obtain ⟨n, h1, h2, _⟩ := mem_grtL.1 hx; omega
  have va := fview_spec G lines coal hog hl1 (fun x hx => hl2 x hx) hc1 hc2
  have vb := fview_spec G lines (grtL coal m j) hog hl1 (fun x hx => hl2 x hx) (by omega) hbnd
  rw [ea, ra] at va
  rw [eb, rb] at vb
  have hw2 := wwithin_spec (vF G lines (grtL coal m j)) (vF G lines coal) (okF_vF hog) (okF_vF hog) (view_check hcg) (by rw [hj']; exact view_fin hcg hkg hlg m)
  rw [hln] at hLn
  rw [hcc] at hCo
  obtain ⟨X, hX⟩ : ∃ X, X = vF G lines coal := ⟨_, rfl⟩
  obtain ⟨Y, hY⟩ : ∃ Y, Y = vF G lines (grtL coal m j) := ⟨_, rfl⟩
  rw [show (⟨G.senders, viewAt G lines coal G.lots.length⟩ : FlowP) = X from hX.symm] at va
  rw [show (⟨G.senders, viewAt G lines (grtL coal m j) G.lots.length⟩ : FlowP) = Y from hY.symm] at vb
  rw [← hX, ← hY] at hw2
  repeat' (first
    | (with_reducible refine aw_seq ?_)
    | ((with_reducible refine twoG_intro ?_ ?_) <;> intro hTw <;> first | (exact Bool.noConfusion hTw) | ((try simp only [hTw, Bool.not_true, Bool.not_false, Bool.true_and, Bool.false_and, Bool.and_true, Bool.and_false, Bool.true_or, Bool.false_or, Bool.or_true, Bool.or_false]); (first | (guard_hyp hTw : true = true; clear hTw) | (guard_hyp hTw : false = false; clear hTw) | (revert hTw; intro _))))
    | ((with_reducible refine two_intro ?_ ?_) <;> intro hTw <;> first | (exact Bool.noConfusion hTw) | ((first | (guard_hyp hTw : true = true; clear hTw) | (guard_hyp hTw : false = false; clear hTw) | (revert hTw; intro _))))
    | ((with_reducible refine And.intro ?_ ?_); (focus (first | omega | rfl | decide | grind)))
    | (with_reducible refine aw_block ?_)
    | (with_reducible refine aw_scope ?_)
    | ((first
        | ((with_reducible refine aw_regionA T_ok ?_ ?_); (focus kernel_rfl))
        | ((with_reducible refine aw_drawnA T_ok ?_ ?_ ?_ ?_); (focus kernel_rfl); (focus kernel_rfl); (focus (decide +kernel)))
        | ((with_reducible refine aw_drawnF T_ok ?_ ?_ ?_ ?_); (focus kernel_rfl); (focus kernel_rfl); (focus (decide +kernel)))
        | ((with_reducible refine callK_intro (hLn) (by with_unfolding_all rfl) ?_ ?_); (focus kernel_rfl))
        | ((with_reducible refine callI_spec (hLn) (by with_unfolding_all rfl) ?_ ?_ ?_); (focus kernel_rfl); (focus kernel_rfl))
        | ((with_reducible refine callK_intro (hCo) (by with_unfolding_all rfl) ?_ ?_); (focus kernel_rfl))
        | ((with_reducible refine callI_spec (hCo) (by with_unfolding_all rfl) ?_ ?_ ?_); (focus kernel_rfl); (focus kernel_rfl))
        | ((with_reducible refine callK_intro (va) (by with_unfolding_all rfl) ?_ ?_); (focus kernel_rfl))
        | ((with_reducible refine callI_spec (va) (by with_unfolding_all rfl) ?_ ?_ ?_); (focus kernel_rfl); (focus kernel_rfl))
        | ((with_reducible refine callK_intro (vb) (by with_unfolding_all rfl) ?_ ?_); (focus kernel_rfl))
        | ((with_reducible refine callI_spec (vb) (by with_unfolding_all rfl) ?_ ?_ ?_); (focus kernel_rfl); (focus kernel_rfl))
        | ((with_reducible refine callK_intro (hw2) (by with_unfolding_all rfl) ?_ ?_); (focus kernel_rfl))
        | ((with_reducible refine callI_spec (hw2) (by with_unfolding_all rfl) ?_ ?_ ?_); (focus kernel_rfl); (focus kernel_rfl))
        | (with_reducible refine aw_label ?_)
        | ((with_reducible refine aw_rfM ?_ ?_); (focus kernel_rfl))
        | (with_reducible refine aw_skip ?_)
        | (with_reducible refine aw_exit ?_)
        | ((with_reducible refine aw_condM ?_ ?_); (focus kernel_rfl))
        | (with_reducible refine aw_ret ?_)
      ); simp only [↓avP, avQ, if_true, if_false, forall_const, beq_self_eq_true, eq_self, ne_eq, implies_true, reduceIte, Nat.reduceEqDiff, Nat.reduceAdd, Nat.reduceSub, Int.reduceToNat, Nat.reduceLeDiff, Nat.reduceLT, reduceCtorEq, Int.reduceEq, retQ, retL, resV, RetV, RetOk, SubL, intD_B, u8D_B, lotD_B, flowD_B, snocI, snocL, lotr_get, lotr_drop, lotr_set, fl_t1, fl_d2, ty_3, ty_5, ty_42, ty_27, ty_4, ty_24, ty_40, ty_22, ty_31, issD_get, hd]; try simp (disch := omega) only [av_w, av_t1, av_tp, Int.toNat_natCast]))
  exact Sub.refl _
end Go.Proofs.Ytncihbmehbiekaa


namespace Go.Proofs.Ytncihbmehbiekaa
set_option linter.unusedSimpArgs false
set_option linter.unusedVariables false
open Go.ChangeShapes Go.WideShapes Go.ChangeAt Go.RowKit
def u8I (x : Int) : List D := [.c (.int .u8 x)]
def OkBy (l : List Int) : Prop := l.length ≤ 140737488351232 ∧ ∀ x ∈ l, 0 ≤ x ∧ x ≤ 255
theorem wf_u8w {n : Int} (h : (Lit.int .u8 n).wf = true) : 0 ≤ n ∧ n ≤ 255 := by simpa [Lit.wf, IntKind.min, IntKind.max, IntKind.signed, IntKind.bits] using h
theorem opens_u81 : Opens Try.prog 5 (RE u8I (fun n => 0 ≤ n ∧ n ≤ 255)) :=
  ore_map (f := fun n : Int => n) (ore_int Try.underlying5) (by intro x; rfl) (fun x h => wf_u8w h)
theorem opens_bytes : Opens Try.prog 42 (RE (fun l : List Int => [.sl 1 (u8I 0) (l.map u8I)]) OkBy) :=
  ore_slice (sz := 1) (u8I 0) (by intro x; rfl) opens_u81 Try.underlying42 (by kernel_rfl) (by decide) (Nat.le_of_ble_eq_true (by kernel_rfl))
theorem bytes_nat {l : List Int} (h : OkBy l) : l.map u8I = (l.map Int.toNat).map u8D := by
  rw [List.map_map]
  refine List.map_congr_left fun x hx => ?_
  have := h.2 x hx
  show [D.c (.int .u8 x)] = [D.c (.int .u8 ((x.toNat : Nat) : Int))]
  rw [Int.toNat_of_nonneg this.1]
theorem bytes_lt {l : List Int} (h : OkBy l) : ∀ p ∈ l.map Int.toNat, p < 256 := fun p hp => by
  obtain ⟨x, hx, rfl⟩ := List.mem_map.1 hp
  have := h.2 x hx
  omega
theorem wrow4 (f : FlowP) (l : List Int) (hf : OkF f) (hl : OkBy l) : Spec Try.prog 6 [.agg (flowD f), .one (.sl 1 (u8I 0) (l.map u8I))] (.r1 (aB true)) := by
  rw [bytes_nat hl]
  exact wlaw4_spec f _ hf (bytes_lt hl) (by rw [List.length_map]; exact hl.1)
theorem wrow5 (f : FlowP) (l : List Int) (hf : OkF f) (hl : OkBy l) : Spec Try.prog 8 [.agg (flowD f), .one (.sl 1 (u8I 0) (l.map u8I))] (.r1 (aB true)) := by
  rw [bytes_nat hl]
  exact wlaw5_spec f _ hf (bytes_lt hl) (by rw [List.length_map]; exact hl.1)
theorem wrow6 (f : FlowP) (l : List Int) (a : Int) (lines : List (List Int)) (coal : List Int) (m : Int) (hf : OkF f) (hl : OkBy l) (ha : (Lit.int .u8 a).wf = true) (hn : lines.length ≤ 140737488351232 ∧ ∀ x ∈ lines, OkI x) (hc : OkI coal) :
    Spec Try.prog 9 [.agg (flowD f), .one (.sl 1 (u8I 0) (l.map u8I)), .one (.c (.int .u8 a)), aIss lines, aIs coal, aI m] (.r1 (aB true)) := by
  rw [bytes_nat hl]
  exact wlaw6_spec f _ a lines coal m hf (bytes_lt hl) (by rw [List.length_map]; exact hl.1) (wf_u8w ha) hn hc
end Go.Proofs.Ytncihbmehbiekaa


namespace Go.Proofs.Ytncihbmehbiekaa
set_option linter.unusedSimpArgs false
set_option linter.unusedVariables false
theorem Try.own : ownKnob Try.prog.godebug = none := by kernel_rfl
theorem Try.laidOut : laidOutB Try.prog = true := by kernel_rfl
end Go.Proofs.Ytncihbmehbiekaa

