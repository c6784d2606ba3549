import Derived.Test.YtnlaiaklafjamaaGA20
import Derived.Test.YtnlaiaklafjamaaGA18
import Derived.Test.YtnlaiaklafjamaaGA17
namespace Go.Proofs.Ytnlaiaklafjamaa
set_option linter.unusedSimpArgs false
set_option linter.unusedVariables false
open Go.RowKit
set_option maxRecDepth 100000
set_option maxHeartbeats 8000000
def okLb (x : LotP) : Bool := okIb x.inn && okIb x.perm
theorem okL_b {x : LotP} (h : okLb x = true) : OkL x := by
  unfold okLb at h
  simp only [Bool.and_eq_true] at h
  exact ⟨(okI_b h.1).1, (okI_b h.2).1, (okI_b h.1).2, (okI_b h.2).2⟩
def okSb (s : SeenP) : Bool := okFb s.flow && decide (s.reach.length ≤ 140737488351232) && s.reach.all fun l => decide (l.length ≤ 140737488351232)
theorem okS_of {s : SeenP} (hf : OkF s.flow) (hr : s.reach.length ≤ 140737488351232) (h : ∀ l ∈ s.reach, l.length ≤ 140737488351232) : OkS s :=
  ⟨hf, hr, fun k => by
    rcases Nat.lt_or_ge k s.reach.length with hk | hk
    · rw [List.getD, List.getElem?_eq_getElem hk]; exact h _ (by simp)
    · rw [List.getD, List.getElem?_eq_none hk]; simp⟩
theorem okS_b {s : SeenP} (h : okSb s = true) : OkS s := by
  unfold okSb at h
  simp only [Bool.and_eq_true, List.all_eq_true, decide_eq_true_eq] at h
  exact okS_of (okF_b h.1.1) h.1.2 h.2
theorem ex_start {n : Int} (S : SeenP) (e : Int) (hn : -9223372036854775808 ≤ n ∧ n ≤ 9223372036854775807) (h1 : startR n = S) (h2 : startE n = e) : Spec Try.prog 10 [aI n] (.rt [.agg (seenD S), aI e]) := by
  subst h1 h2
  exact gstart_spec n hn
theorem ex_add {xs xl : A} {s : SeenP} {x : LotP} (S : SeenP) (c : List Int) (e : Int) (hs : Sub xs (.agg (seenD s))) (hx : Sub xl (.agg (lotD x))) (h1 : okSb s = true) (h2 : okLb x = true) (h3 : addG s x = S) (h4 : addC s x = c) (h5 : addE s x = e) :
    Spec Try.prog 12 [xs, xl] (.rt [.agg (seenD S), aIs c, aI e]) := by
  subst h3 h4 h5
  exact (gadd30_spec s x (okS_b h1) (okL_b h2)).args ⟨hs, hx, trivial⟩
abbrev S3 : SeenP := ⟨⟨3, []⟩, [[0], [1], [2]]⟩
abbrev SX : SeenP := ⟨⟨3, [⟨[0, 1], false, []⟩]⟩, [[3, 4], [3, 4], [2]]⟩
abbrev SY : SeenP := ⟨⟨3, [⟨[0, 1], false, []⟩, ⟨[4], true, [0]⟩]⟩, [[3, 5], [3, 5], [2]]⟩
abbrev xLu (l : List Int) : A := .agg [isL l, .c (.bool false), nilL]
abbrev xLk (l p : List Int) : A := .agg [isL l, .c (.bool true), isL p]
theorem sLu (l : List Int) : Sub (xLu l) (.agg (lotD ⟨l, false, []⟩)) := Sub.aggL ⟨sub_is _, SubD.refl _, sub_nil, trivial⟩
theorem sLk (l p : List Int) : Sub (xLk l p) (.agg (lotD ⟨l, true, p⟩)) := Sub.aggL ⟨sub_is _, SubD.refl _, sub_is _, trivial⟩
abbrev xIss2 (a b : List Int) : D := .sl 1 (zD (.slice none 0 0)) [[isL a], [isL b]]
abbrev xS2 (a b : List Int) : A := .agg [iL 2, nilL, xIss2 a b]
theorem sub_iss2 (a b : List Int) : SubD (xIss2 a b) (.sl 1 (issD []) ([a, b].map issD)) := SubD.sl ⟨⟨sub_is _, trivial⟩, ⟨sub_is _, trivial⟩, trivial⟩
theorem sS2 (a b : List Int) : Sub (xS2 a b) (.agg (seenD ⟨⟨2, []⟩, [a, b]⟩)) := Sub.aggL ⟨SubD.refl _, sub_nil, sub_iss2 a b, trivial⟩
abbrev xIss3 (a b c : List Int) : A := .one (.sl 1 (zD (.slice none 0 0)) [[isL a], [isL b], [isL c]])
theorem sIss3 (a b c : List Int) : Sub (xIss3 a b c) (aIss [a, b, c]) := fun F w v hv => SubD.sl (sz := 1) (d0 := zD (.slice none 0 0)) (d1 := [.sl 1 (intD 0) []]) (es := [[isL a], [isL b], [isL c]]) (fs := [[.sl 1 (intD 0) (a.map intD)], [.sl 1 (intD 0) (b.map intD)], [.sl 1 (intD 0) (c.map intD)]]) ⟨⟨sub_is _, trivial⟩, ⟨sub_is _, trivial⟩, ⟨sub_is _, trivial⟩, trivial⟩ F w v hv
theorem same3 (a b c : List Int) (h : a.length ≤ 100 ∧ b.length ≤ 100 ∧ c.length ≤ 100) : Spec Try.prog 20 [aIss [a, b, c], xIss3 a b c] (.r1 (aB true)) := by
  have e5 := qwsame_spec [a, b, c] [a, b, c] (by
    intro k
    match k with
    | 0 => simp; omega
    | 1 => simp; omega
    | 2 => simp; omega
    | k + 3 => simp) (by simp) (by simp)
  rw [show decide ([a, b, c] = [a, b, c]) = true by simp] at e5
  exact e5.args ⟨Sub.refl _, sIss3 a b c, trivial⟩
theorem gsane30_spec : Spec Try.prog 8 [] (.r1 (aB true)) := by
  refine spec_of T_ok Try.func8 (by dsimp only [Try.f8]) rfl rfl (by simp) fun w F => ?_
  have a1 := ex_start (n := -1) default 250 (by omega) (by decide +kernel) (by decide +kernel)
  have a2 := ex_start (n := 65) default 2 (by omega) (by decide +kernel) (by decide +kernel)
  have a3 := ex_start (n := 3) S3 0 (by omega) (by decide +kernel) (by decide +kernel)
  have a4 := ex_add SX [0, 1] 0 (Sub.refl (.agg (seenD S3))) (sLu [0, 1]) (by decide +kernel) (by decide +kernel) (by decide +kernel) (by decide +kernel) (by decide +kernel)
  have a5 := ex_add default [] 250 (sS2 [0] [1]) (sLu [2]) (by decide +kernel) (by decide +kernel) (by decide +kernel) (by decide +kernel) (by decide +kernel)
  have a6 := ex_add default [] 250 (sS2 [0] [0]) (sLu [0]) (by decide +kernel) (by decide +kernel) (by decide +kernel) (by decide +kernel) (by decide +kernel)
  have a7 := ex_add SY [0, 1] 0 (Sub.refl (.agg (seenD SX))) (sLk [4] [0]) (by decide +kernel) (by decide +kernel) (by decide +kernel) (by decide +kernel) (by decide +kernel)
  have e1 := same3 [0] [1] [2] (by decide)
  have e2 := same3 [3, 4] [3, 4] [2] (by decide)
  have e3 := same3 [3, 5] [3, 5] [2] (by decide)
  have e4 := sameInts_spec [0, 1] [0, 1] (by decide)
  repeat' (first
    | (with_reducible refine aw_seq ?_)
    | ((with_reducible refine twoG_intro ?_ ?_) <;> intro hTw <;> first | (exact Bool.noConfusion hTw) | ((try simp only [hTw, Bool.not_true, Bool.not_false, Bool.true_and, Bool.false_and, Bool.and_true, Bool.and_false, Bool.true_or, Bool.false_or, Bool.or_true, Bool.or_false]); (first | (guard_hyp hTw : true = true; clear hTw) | (guard_hyp hTw : false = false; clear hTw) | (revert hTw; intro _))))
    | ((with_reducible refine two_intro ?_ ?_) <;> intro hTw <;> first | (exact Bool.noConfusion hTw) | ((first | (guard_hyp hTw : true = true; clear hTw) | (guard_hyp hTw : false = false; clear hTw) | (revert hTw; intro _))))
    | ((with_reducible refine And.intro ?_ ?_); (focus (first | omega | rfl | decide | grind)))
    | (with_reducible refine aw_block ?_)
    | (with_reducible refine aw_scope ?_)
    | ((first
        | ((with_reducible refine aw_regionA T_ok ?_ ?_); (focus kernel_rfl))
        | ((with_reducible refine aw_drawnA T_ok ?_ ?_ ?_ ?_); (focus kernel_rfl); (focus kernel_rfl); (focus (decide +kernel)))
        | ((with_reducible refine aw_drawnF T_ok ?_ ?_ ?_ ?_); (focus kernel_rfl); (focus kernel_rfl); (focus (decide +kernel)))
        | ((with_reducible refine callK_intro (a1) (by with_unfolding_all rfl) ?_ ?_); (focus kernel_rfl))
        | ((with_reducible refine callI_spec (a1) (by with_unfolding_all rfl) ?_ ?_ ?_); (focus kernel_rfl); (focus kernel_rfl))
        | ((with_reducible refine callK_intro (a2) (by with_unfolding_all rfl) ?_ ?_); (focus kernel_rfl))
        | ((with_reducible refine callI_spec (a2) (by with_unfolding_all rfl) ?_ ?_ ?_); (focus kernel_rfl); (focus kernel_rfl))
        | ((with_reducible refine callK_intro (a3) (by with_unfolding_all rfl) ?_ ?_); (focus kernel_rfl))
        | ((with_reducible refine callI_spec (a3) (by with_unfolding_all rfl) ?_ ?_ ?_); (focus kernel_rfl); (focus kernel_rfl))
        | ((with_reducible refine callK_intro (a4) (by with_unfolding_all rfl) ?_ ?_); (focus kernel_rfl))
        | ((with_reducible refine callI_spec (a4) (by with_unfolding_all rfl) ?_ ?_ ?_); (focus kernel_rfl); (focus kernel_rfl))
        | ((with_reducible refine callK_intro (a5) (by with_unfolding_all rfl) ?_ ?_); (focus kernel_rfl))
        | ((with_reducible refine callI_spec (a5) (by with_unfolding_all rfl) ?_ ?_ ?_); (focus kernel_rfl); (focus kernel_rfl))
        | ((with_reducible refine callK_intro (a6) (by with_unfolding_all rfl) ?_ ?_); (focus kernel_rfl))
        | ((with_reducible refine callI_spec (a6) (by with_unfolding_all rfl) ?_ ?_ ?_); (focus kernel_rfl); (focus kernel_rfl))
        | ((with_reducible refine callK_intro (a7) (by with_unfolding_all rfl) ?_ ?_); (focus kernel_rfl))
        | ((with_reducible refine callI_spec (a7) (by with_unfolding_all rfl) ?_ ?_ ?_); (focus kernel_rfl); (focus kernel_rfl))
        | ((with_reducible refine callK_intro (e1) (by with_unfolding_all rfl) ?_ ?_); (focus kernel_rfl))
        | ((with_reducible refine callI_spec (e1) (by with_unfolding_all rfl) ?_ ?_ ?_); (focus kernel_rfl); (focus kernel_rfl))
        | ((with_reducible refine callK_intro (e2) (by with_unfolding_all rfl) ?_ ?_); (focus kernel_rfl))
        | ((with_reducible refine callI_spec (e2) (by with_unfolding_all rfl) ?_ ?_ ?_); (focus kernel_rfl); (focus kernel_rfl))
        | ((with_reducible refine callK_intro (e3) (by with_unfolding_all rfl) ?_ ?_); (focus kernel_rfl))
        | ((with_reducible refine callI_spec (e3) (by with_unfolding_all rfl) ?_ ?_ ?_); (focus kernel_rfl); (focus kernel_rfl))
        | ((with_reducible refine callK_intro (e4) (by with_unfolding_all rfl) ?_ ?_); (focus kernel_rfl))
        | ((with_reducible refine callI_spec (e4) (by with_unfolding_all rfl) ?_ ?_ ?_); (focus kernel_rfl); (focus kernel_rfl))
        | (with_reducible refine aw_label ?_)
        | ((with_reducible refine aw_rfM ?_ ?_); (focus kernel_rfl))
        | (with_reducible refine aw_skip ?_)
        | (with_reducible refine aw_exit ?_)
        | ((with_reducible refine aw_condM ?_ ?_); (focus kernel_rfl))
        | (with_reducible refine aw_ret ?_)
      ); simp only [↓avP, avQ, if_true, if_false, forall_const, beq_self_eq_true, eq_self, ne_eq, implies_true, reduceIte, Nat.reduceEqDiff, Nat.reduceAdd, Nat.reduceSub, Int.reduceToNat, Nat.reduceLeDiff, Nat.reduceLT, reduceCtorEq, Int.reduceEq, retQ, retL, resV, RetV, RetOk, SubL, intD_B, lotD_B, flowD_B, seenD_B, snocI, snocL, seen_take2, seen_take1, gfl_t1, gfl_d2, ty_3, ty_28, ty_4, ty_24, ty_30, ty_22, ty_25, ty_27, issD_get]; try simp (disch := omega) only [av_w, av_t1, av_tp, Int.toNat_natCast]))
  all_goals exact Sub.of_eq (congrArg aB (by decide))
end Go.Proofs.Ytnlaiaklafjamaa


namespace Go.Proofs.Ytnlaiaklafjamaa
set_option linter.unusedSimpArgs false
set_option linter.unusedVariables false
open Go.RowKit
set_option maxRecDepth 100000
set_option maxHeartbeats 8000000
theorem matR_okS (f : FlowP) : (matR f).length ≤ 140737488351232 ∧ ∀ l ∈ matR f, l.length ≤ 140737488351232 := by
  refine ⟨by have := matR_len f; omega, fun l hl => ?_⟩
  obtain ⟨k, hk, rfl⟩ := List.getElem_of_mem hl
  have := matR_at f k
  rw [List.getD, List.getElem?_eq_getElem hk] at this
  exact Nat.le_trans this (by omega)
theorem okS_mat {f : FlowP} (hf : OkF f) : OkS ⟨f, matR f⟩ := okS_of hf (matR_okS f).1 (matR_okS f).2
theorem okS_default : OkS default := okS_of ⟨by decide, by decide, by intro x hx; cases hx⟩ (by decide) (by intro l hl; cases hl)
theorem okS_start {n : Int} (hn : -9223372036854775808 ≤ n ∧ n ≤ 9223372036854775807) : OkS (startR n) := by
  unfold startR
  split
  · exact okS_mat (okF_none hn)
  · exact okS_default
theorem okS_add {s : SeenP} {x : LotP} (hs : OkS s) (hx : OkL x) : OkS (addG s x) := by
  unfold addG
  split
  · rename_i h
    refine okS_mat (hs.f.more hx ?_)
    have hc : checkF s.flow = 0 := by
      apply Classical.byContradiction
      intro hc
      rw [addE, if_pos hc] at h
      exact hc h
    have := checkF_zero hc
    omega
  · exact okS_default
theorem addC_len (s : SeenP) (x : LotP) : (addC s x).length ≤ 1000 := by
  unfold addC
  split
  · rename_i h
    have hc : checkF s.flow = 0 := by
      apply Classical.byContradiction
      intro hc
      rw [addE, if_pos hc] at h
      exact hc h
    have z := checkF_zero hc
    have := chgL_len s.flow x s.flow.senders.toNat
    omega
  · simp
theorem glaw1_spec (s : SeenP) (x : LotP) (n : Int) (hs : OkS s) (hx : OkL x) (hn : -9223372036854775808 ≤ n ∧ n ≤ 9223372036854775807) : Spec Try.prog 3 [.agg (seenD s), .agg (lotD x), aI n] (.r1 (aB true)) := by
  refine spec_of T_ok Try.func3 (by dsimp only [Try.f3]) rfl rfl (by simp) fun w F => ?_
  have hF := qgfew_spec s x hs hx
  cases hf : fewG s x with
  | false =>
    rw [hf] at hF
    repeat' (first
      | (with_reducible refine aw_seq ?_)
      | ((with_reducible refine twoG_intro ?_ ?_) <;> intro hTw <;> first | (exact Bool.noConfusion hTw) | ((try simp only [hTw, Bool.not_true, Bool.not_false, Bool.true_and, Bool.false_and, Bool.and_true, Bool.and_false, Bool.true_or, Bool.false_or, Bool.or_true, Bool.or_false]); (first | (guard_hyp hTw : true = true; clear hTw) | (guard_hyp hTw : false = false; clear hTw) | (revert hTw; intro _))))
      | ((with_reducible refine two_intro ?_ ?_) <;> intro hTw <;> first | (exact Bool.noConfusion hTw) | ((first | (guard_hyp hTw : true = true; clear hTw) | (guard_hyp hTw : false = false; clear hTw) | (revert hTw; intro _))))
      | ((with_reducible refine And.intro ?_ ?_); (focus (first | omega | rfl | decide | grind)))
      | (with_reducible refine aw_block ?_)
      | (with_reducible refine aw_scope ?_)
      | ((first
          | ((with_reducible refine aw_regionA T_ok ?_ ?_); (focus kernel_rfl))
          | ((with_reducible refine aw_drawnA T_ok ?_ ?_ ?_ ?_); (focus kernel_rfl); (focus kernel_rfl); (focus (decide +kernel)))
          | ((with_reducible refine aw_drawnF T_ok ?_ ?_ ?_ ?_); (focus kernel_rfl); (focus kernel_rfl); (focus (decide +kernel)))
          | ((with_reducible refine callK_intro (gsane30_spec) (by with_unfolding_all rfl) ?_ ?_); (focus kernel_rfl))
          | ((with_reducible refine callI_spec (gsane30_spec) (by with_unfolding_all rfl) ?_ ?_ ?_); (focus kernel_rfl); (focus kernel_rfl))
          | ((with_reducible refine callK_intro (hF) (by with_unfolding_all rfl) ?_ ?_); (focus kernel_rfl))
          | ((with_reducible refine callI_spec (hF) (by with_unfolding_all rfl) ?_ ?_ ?_); (focus kernel_rfl); (focus kernel_rfl))
          | (with_reducible refine aw_label ?_)
          | ((with_reducible refine aw_rfM ?_ ?_); (focus kernel_rfl))
          | (with_reducible refine aw_skip ?_)
          | (with_reducible refine aw_exit ?_)
          | ((with_reducible refine aw_condM ?_ ?_); (focus kernel_rfl))
          | (with_reducible refine aw_ret ?_)
        ); simp only [↓avP, avQ, if_true, if_false, forall_const, beq_self_eq_true, eq_self, ne_eq, implies_true, reduceIte, Nat.reduceEqDiff, Nat.reduceAdd, Nat.reduceSub, Int.reduceToNat, Nat.reduceLeDiff, Nat.reduceLT, reduceCtorEq, Int.reduceEq, retQ, retL, resV, RetV, RetOk, SubL, intD_B, lotD_B, flowD_B, seenD_B, snocI, snocL, seen_take2, seen_take1, ty_3, ty_28, ty_4, ty_24, ty_30, ty_22, ty_25, ty_27, issD_get]; try simp (disch := omega) only [av_w, av_t1, av_tp, Int.toNat_natCast]))
    exact Sub.refl _
  | true =>
    rw [hf] at hF
    have a1 := gstart_spec n hn
    have a2 := qgstart_spec n hn
    have a3 := gadd30_spec s x hs hx
    have a4 := qgadd_spec s x hs hx
    have a5 := qgsame_spec _ _ (okS_start hn) (okS_start hn)
    have a6 := qgsame_spec _ _ (okS_add hs hx) (okS_add hs hx)
    have a7 := sameInts_spec (addC s x) (addC s x) (by have := addC_len s x; omega)
    simp only [decide_true, Bool.and_self] at a5 a6 a7
    obtain ⟨S1, h1⟩ : ∃ S, S = startR n := ⟨_, rfl⟩
    obtain ⟨S2, h2⟩ : ∃ S, S = addG s x := ⟨_, rfl⟩
    rw [← h1] at a1 a2 a5
    rw [← h2] at a3 a4 a6
    repeat' (first
      | (with_reducible refine aw_seq ?_)
      | ((with_reducible refine twoG_intro ?_ ?_) <;> intro hTw <;> first | (exact Bool.noConfusion hTw) | ((try simp only [hTw, Bool.not_true, Bool.not_false, Bool.true_and, Bool.false_and, Bool.and_true, Bool.and_false, Bool.true_or, Bool.false_or, Bool.or_true, Bool.or_false]); (first | (guard_hyp hTw : true = true; clear hTw) | (guard_hyp hTw : false = false; clear hTw) | (revert hTw; intro _))))
      | ((with_reducible refine two_intro ?_ ?_) <;> intro hTw <;> first | (exact Bool.noConfusion hTw) | ((first | (guard_hyp hTw : true = true; clear hTw) | (guard_hyp hTw : false = false; clear hTw) | (revert hTw; intro _))))
      | ((with_reducible refine And.intro ?_ ?_); (focus (first | omega | rfl | decide | grind)))
      | (with_reducible refine aw_block ?_)
      | (with_reducible refine aw_scope ?_)
      | ((first
          | ((with_reducible refine aw_regionA T_ok ?_ ?_); (focus kernel_rfl))
          | ((with_reducible refine aw_drawnA T_ok ?_ ?_ ?_ ?_); (focus kernel_rfl); (focus kernel_rfl); (focus (decide +kernel)))
          | ((with_reducible refine aw_drawnF T_ok ?_ ?_ ?_ ?_); (focus kernel_rfl); (focus kernel_rfl); (focus (decide +kernel)))
          | ((with_reducible refine callK_intro (gsane30_spec) (by with_unfolding_all rfl) ?_ ?_); (focus kernel_rfl))
          | ((with_reducible refine callI_spec (gsane30_spec) (by with_unfolding_all rfl) ?_ ?_ ?_); (focus kernel_rfl); (focus kernel_rfl))
          | ((with_reducible refine callK_intro (hF) (by with_unfolding_all rfl) ?_ ?_); (focus kernel_rfl))
          | ((with_reducible refine callI_spec (hF) (by with_unfolding_all rfl) ?_ ?_ ?_); (focus kernel_rfl); (focus kernel_rfl))
          | ((with_reducible refine callK_intro (a1) (by with_unfolding_all rfl) ?_ ?_); (focus kernel_rfl))
          | ((with_reducible refine callI_spec (a1) (by with_unfolding_all rfl) ?_ ?_ ?_); (focus kernel_rfl); (focus kernel_rfl))
          | ((with_reducible refine callK_intro (a2) (by with_unfolding_all rfl) ?_ ?_); (focus kernel_rfl))
          | ((with_reducible refine callI_spec (a2) (by with_unfolding_all rfl) ?_ ?_ ?_); (focus kernel_rfl); (focus kernel_rfl))
          | ((with_reducible refine callK_intro (a3) (by with_unfolding_all rfl) ?_ ?_); (focus kernel_rfl))
          | ((with_reducible refine callI_spec (a3) (by with_unfolding_all rfl) ?_ ?_ ?_); (focus kernel_rfl); (focus kernel_rfl))
          | ((with_reducible refine callK_intro (a4) (by with_unfolding_all rfl) ?_ ?_); (focus kernel_rfl))
          | ((with_reducible refine callI_spec (a4) (by with_unfolding_all rfl) ?_ ?_ ?_); (focus kernel_rfl); (focus kernel_rfl))
          | ((with_reducible refine callK_intro (a5) (by with_unfolding_all rfl) ?_ ?_); (focus kernel_rfl))
          | ((with_reducible refine callI_spec (a5) (by with_unfolding_all rfl) ?_ ?_ ?_); (focus kernel_rfl); (focus kernel_rfl))
          | ((with_reducible refine callK_intro (a6) (by with_unfolding_all rfl) ?_ ?_); (focus kernel_rfl))
          | ((with_reducible refine callI_spec (a6) (by with_unfolding_all rfl) ?_ ?_ ?_); (focus kernel_rfl); (focus kernel_rfl))
          | ((with_reducible refine callK_intro (a7) (by with_unfolding_all rfl) ?_ ?_); (focus kernel_rfl))
          | ((with_reducible refine callI_spec (a7) (by with_unfolding_all rfl) ?_ ?_ ?_); (focus kernel_rfl); (focus kernel_rfl))
          | (with_reducible refine aw_label ?_)
          | ((with_reducible refine aw_rfM ?_ ?_); (focus kernel_rfl))
          | (with_reducible refine aw_skip ?_)
          | (with_reducible refine aw_exit ?_)
          | ((with_reducible refine aw_condM ?_ ?_); (focus kernel_rfl))
          | (with_reducible refine aw_ret ?_)
        ); simp only [↓avP, avQ, if_true, if_false, forall_const, beq_self_eq_true, eq_self, ne_eq, implies_true, reduceIte, Nat.reduceEqDiff, Nat.reduceAdd, Nat.reduceSub, Int.reduceToNat, Nat.reduceLeDiff, Nat.reduceLT, reduceCtorEq, Int.reduceEq, retQ, retL, resV, RetV, RetOk, SubL, intD_B, lotD_B, flowD_B, seenD_B, snocI, snocL, seen_take2, seen_take1, ty_3, ty_28, ty_4, ty_24, ty_30, ty_22, ty_25, ty_27, issD_get]; try simp (disch := omega) only [av_w, av_t1, av_tp, Int.toNat_natCast]))
    all_goals first | exact Sub.refl _ | exact Sub.of_eq (congrArg aB (by simp))
end Go.Proofs.Ytnlaiaklafjamaa


namespace Go.Proofs.Ytnlaiaklafjamaa
set_option linter.unusedSimpArgs false
set_option linter.unusedVariables false
open Go.ChangeShapes Go.WideShapes Go.ChangeAt Go.RowKit
theorem opens_seen : Opens Try.prog 27 (RE seenD OkS) :=
  ore_map (f := fun p : FlowP × List (List Int) × Unit => (⟨p.1, p.2.1⟩ : SeenP))
    (opens_struct Try.underlying27 (by kernel_rfl)
      (oreL_cons (s1 := 2) (by intro x; rfl) opens_flow (by kernel_rfl) rfl (by simp) (oreL_1 opens_intss (by intro x; rfl) (by kernel_rfl) rfl (by simp) oreL_nil)))
    (by intro x; rfl) (by rintro x ⟨h1, h2, _⟩; exact okS_of h1 h2.1 fun l hl => (h2.2 l hl).1)
theorem wf_u8g {n : Int} (h : (Lit.int .u8 n).wf = true) : 0 ≤ n ∧ n ≤ 255 := by simpa [Lit.wf, IntKind.min, IntKind.max, IntKind.signed, IntKind.bits] using h
end Go.Proofs.Ytnlaiaklafjamaa


namespace Go.Proofs.Ytnlaiaklafjamaa
set_option linter.unusedSimpArgs false
set_option linter.unusedVariables false
theorem Try.own : ownKnob Try.prog.godebug = none := by kernel_rfl
theorem Try.laidOut : laidOutB Try.prog = true := by kernel_rfl
end Go.Proofs.Ytnlaiaklafjamaa

