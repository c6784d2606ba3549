import Derived.Test.YtnlaiaklafjamaaGB16
import Derived.Test.YtnlaiaklafjamaaGB15
namespace Go.Proofs.Ytnlaiaklafjamaa
set_option linter.unusedSimpArgs false
set_option linter.unusedVariables false
open Go.RowKit
set_option maxRecDepth 100000
set_option maxHeartbeats 8000000
theorem gb_app (g : FlowP) (d : D) : dV (flowD g) ++ [V.d d] = dV (flowD g ++ [d]) := rfl
theorem gb_t2 (g : FlowP) (d : D) : List.take 2 (dV (flowD g ++ [d])) = dV (flowD g) := rfl
theorem gb_len (g : FlowP) (d : D) : (dV (flowD g ++ [d])).length = 3 := rfl
theorem gb_one : allOne (Value.agg #[Value.int IntKind.i64 0, Value.slice none 0 0, Value.slice none 0 0]) = true := rfl
theorem gb_d3 (g : FlowP) (d : D) : List.drop 3 (dV (flowD g ++ [d])) = [] := rfl
theorem qgwith_spec (f : FlowP) (x : LotP) (hl : f.lots.length ≤ 1000000) : Spec Try.prog 16 [.agg (flowD f), .agg (lotD x)] (.r1 (.agg (flowD (moreF f x)))) := by
  refine spec_of T_ok Try.func16 (by dsimp only [Try.f16]) rfl rfl (by simp) fun w F => ?_
  repeat' (first
    | (with_reducible refine aw_seq ?_)
    | ((with_reducible refine twoG_intro ?_ ?_) <;> intro hTw <;> first | (exact Bool.noConfusion hTw) | ((try simp only [hTw, Bool.not_true, Bool.not_false, Bool.true_and, Bool.false_and, Bool.and_true, Bool.and_false, Bool.true_or, Bool.false_or, Bool.or_true, Bool.or_false]); (first | (guard_hyp hTw : true = true; clear hTw) | (guard_hyp hTw : false = false; clear hTw) | (revert hTw; intro _))))
    | ((with_reducible refine two_intro ?_ ?_) <;> intro hTw <;> first | (exact Bool.noConfusion hTw) | ((first | (guard_hyp hTw : true = true; clear hTw) | (guard_hyp hTw : false = false; clear hTw) | (revert hTw; intro _))))
    | ((with_reducible refine And.intro ?_ ?_); (focus (first | omega | rfl | decide | grind)))
    | (with_reducible refine aw_block ?_)
    | (with_reducible refine aw_scope ?_)
    | ((first
        | ((with_reducible refine aw_regionA T_ok ?_ ?_); (focus kernel_rfl))
        | ((with_reducible refine aw_drawnA T_ok ?_ ?_ ?_ ?_); (focus kernel_rfl); (focus kernel_rfl); (focus (decide +kernel)))
        | ((with_reducible refine aw_drawnF T_ok ?_ ?_ ?_ ?_); (focus kernel_rfl); (focus kernel_rfl); (focus (decide +kernel)))
        | ((with_reducible refine aw_drawnC T_ok ?_ ?_ ?_ ?_); (focus kernel_rfl); (focus kernel_rfl); (focus (decide +kernel)))
        | (with_reducible refine aw_label ?_)
        | ((with_reducible refine aw_rfM ?_ ?_); (focus kernel_rfl))
        | (with_reducible refine aw_skip ?_)
        | (with_reducible refine aw_exit ?_)
        | ((with_reducible refine aw_condM ?_ ?_); (focus kernel_rfl))
        | (with_reducible refine aw_ret ?_)
      ); simp only [↓avP, avQ, if_true, if_false, forall_const, beq_self_eq_true, eq_self, ne_eq, implies_true, reduceIte, Nat.reduceEqDiff, Nat.reduceAdd, Nat.reduceSub, Int.reduceToNat, Nat.reduceLeDiff, Nat.reduceLT, reduceCtorEq, Int.reduceEq, ↓hwpC.eq_def, ↓hopC.eq_def, ↓apKH.eq_def, ↓apH.eq_def, rqOk, lkC, delO, takes, whoMakes, headC, tailC, isTC, Option.some.injEq, Nat.zero_le, Nat.sub_zero, retQ, retL, resV, RetV, RetOk, SubL, intD_B, lotD_B, flowD_B, seenD_B, snocI, snocL, seen_take2, seen_take1, gfl_t1, gfl_d2, gb_app, gb_t2, gb_d3, gb_len, gb_one, ty_3, ty_28, ty_4, ty_24, ty_30, ty_22, ty_25, ty_27, issD_get]; try simp (disch := omega) only [av_w, av_t1, av_tp, Int.toNat_natCast]))
  exact Sub.aggL ⟨SubD.refl _, SubD.of _ _ ⟨rfl, rfl⟩, trivial⟩
theorem qgsame_spec (a b : SeenP) (ha : OkS a) (hb : OkS b) : Spec Try.prog 14 [.agg (seenD a), .agg (seenD b)] (.r1 (aB (decide (a.flow = b.flow) && decide (a.reach = b.reach)))) := by
  refine spec_of T_ok Try.func14 (by dsimp only [Try.f14]) rfl rfl (by simp) fun w F => ?_
  have h1 := qfsame_spec a.flow b.flow ha.f hb.f
  have h2 := qwsame_spec a.reach b.reach ha.rs ha.r hb.r
  cases hd : decide (a.flow = b.flow) with
  | true =>
    rw [hd] at h1
    repeat' (first
      | (with_reducible refine aw_seq ?_)
      | ((with_reducible refine twoG_intro ?_ ?_) <;> intro hTw <;> first | (exact Bool.noConfusion hTw) | ((try simp only [hTw, Bool.not_true, Bool.not_false, Bool.true_and, Bool.false_and, Bool.and_true, Bool.and_false, Bool.true_or, Bool.false_or, Bool.or_true, Bool.or_false]); (first | (guard_hyp hTw : true = true; clear hTw) | (guard_hyp hTw : false = false; clear hTw) | (revert hTw; intro _))))
      | ((with_reducible refine two_intro ?_ ?_) <;> intro hTw <;> first | (exact Bool.noConfusion hTw) | ((first | (guard_hyp hTw : true = true; clear hTw) | (guard_hyp hTw : false = false; clear hTw) | (revert hTw; intro _))))
      | ((with_reducible refine And.intro ?_ ?_); (focus (first | omega | rfl | decide | grind)))
      | (with_reducible refine aw_block ?_)
      | (with_reducible refine aw_scope ?_)
      | ((first
          | ((with_reducible refine aw_regionA T_ok ?_ ?_); (focus kernel_rfl))
          | ((with_reducible refine aw_drawnA T_ok ?_ ?_ ?_ ?_); (focus kernel_rfl); (focus kernel_rfl); (focus (decide +kernel)))
          | ((with_reducible refine aw_drawnF T_ok ?_ ?_ ?_ ?_); (focus kernel_rfl); (focus kernel_rfl); (focus (decide +kernel)))
          | ((with_reducible refine aw_drawnC T_ok ?_ ?_ ?_ ?_); (focus kernel_rfl); (focus kernel_rfl); (focus (decide +kernel)))
          | ((with_reducible refine callK_intro (h1) (by with_unfolding_all rfl) ?_ ?_); (focus kernel_rfl))
          | ((with_reducible refine callI_spec (h1) (by with_unfolding_all rfl) ?_ ?_ ?_); (focus kernel_rfl); (focus kernel_rfl))
          | ((with_reducible refine callK_intro (h2) (by with_unfolding_all rfl) ?_ ?_); (focus kernel_rfl))
          | ((with_reducible refine callI_spec (h2) (by with_unfolding_all rfl) ?_ ?_ ?_); (focus kernel_rfl); (focus kernel_rfl))
          | (with_reducible refine aw_label ?_)
          | ((with_reducible refine aw_rfM ?_ ?_); (focus kernel_rfl))
          | (with_reducible refine aw_skip ?_)
          | (with_reducible refine aw_exit ?_)
          | ((with_reducible refine aw_condM ?_ ?_); (focus kernel_rfl))
          | (with_reducible refine aw_ret ?_)
        ); simp only [↓avP, avQ, if_true, if_false, forall_const, beq_self_eq_true, eq_self, ne_eq, implies_true, reduceIte, Nat.reduceEqDiff, Nat.reduceAdd, Nat.reduceSub, Int.reduceToNat, Nat.reduceLeDiff, Nat.reduceLT, reduceCtorEq, Int.reduceEq, ↓hwpC.eq_def, ↓hopC.eq_def, ↓apKH.eq_def, ↓apH.eq_def, rqOk, lkC, delO, takes, whoMakes, headC, tailC, isTC, Option.some.injEq, Nat.zero_le, Nat.sub_zero, retQ, retL, resV, RetV, RetOk, SubL, intD_B, lotD_B, flowD_B, seenD_B, snocI, snocL, seen_take2, seen_take1, gfl_t1, gfl_d2, gb_app, gb_t2, gb_d3, gb_len, gb_one, ty_3, ty_28, ty_4, ty_24, ty_30, ty_22, ty_25, ty_27, issD_get, hd]; try simp (disch := omega) only [av_w, av_t1, av_tp, Int.toNat_natCast]))
    exact Sub.of_eq (congrArg aB (by simp))
  | false =>
    rw [hd] at h1
    repeat' (first
      | (with_reducible refine aw_seq ?_)
      | ((with_reducible refine twoG_intro ?_ ?_) <;> intro hTw <;> first | (exact Bool.noConfusion hTw) | ((try simp only [hTw, Bool.not_true, Bool.not_false, Bool.true_and, Bool.false_and, Bool.and_true, Bool.and_false, Bool.true_or, Bool.false_or, Bool.or_true, Bool.or_false]); (first | (guard_hyp hTw : true = true; clear hTw) | (guard_hyp hTw : false = false; clear hTw) | (revert hTw; intro _))))
      | ((with_reducible refine two_intro ?_ ?_) <;> intro hTw <;> first | (exact Bool.noConfusion hTw) | ((first | (guard_hyp hTw : true = true; clear hTw) | (guard_hyp hTw : false = false; clear hTw) | (revert hTw; intro _))))
      | ((with_reducible refine And.intro ?_ ?_); (focus (first | omega | rfl | decide | grind)))
      | (with_reducible refine aw_block ?_)
      | (with_reducible refine aw_scope ?_)
      | ((first
          | ((with_reducible refine aw_regionA T_ok ?_ ?_); (focus kernel_rfl))
          | ((with_reducible refine aw_drawnA T_ok ?_ ?_ ?_ ?_); (focus kernel_rfl); (focus kernel_rfl); (focus (decide +kernel)))
          | ((with_reducible refine aw_drawnF T_ok ?_ ?_ ?_ ?_); (focus kernel_rfl); (focus kernel_rfl); (focus (decide +kernel)))
          | ((with_reducible refine aw_drawnC T_ok ?_ ?_ ?_ ?_); (focus kernel_rfl); (focus kernel_rfl); (focus (decide +kernel)))
          | ((with_reducible refine callK_intro (h1) (by with_unfolding_all rfl) ?_ ?_); (focus kernel_rfl))
          | ((with_reducible refine callI_spec (h1) (by with_unfolding_all rfl) ?_ ?_ ?_); (focus kernel_rfl); (focus kernel_rfl))
          | ((with_reducible refine callK_skip (.r1 (aB true)) (by with_unfolding_all rfl) ?_ ?_); (focus kernel_rfl))
          | (with_reducible refine aw_label ?_)
          | ((with_reducible refine aw_rfM ?_ ?_); (focus kernel_rfl))
          | (with_reducible refine aw_skip ?_)
          | (with_reducible refine aw_exit ?_)
          | ((with_reducible refine aw_condM ?_ ?_); (focus kernel_rfl))
          | (with_reducible refine aw_ret ?_)
        ); simp only [↓avP, avQ, if_true, if_false, forall_const, beq_self_eq_true, eq_self, ne_eq, implies_true, reduceIte, Nat.reduceEqDiff, Nat.reduceAdd, Nat.reduceSub, Int.reduceToNat, Nat.reduceLeDiff, Nat.reduceLT, reduceCtorEq, Int.reduceEq, ↓hwpC.eq_def, ↓hopC.eq_def, ↓apKH.eq_def, ↓apH.eq_def, rqOk, lkC, delO, takes, whoMakes, headC, tailC, isTC, Option.some.injEq, Nat.zero_le, Nat.sub_zero, retQ, retL, resV, RetV, RetOk, SubL, intD_B, lotD_B, flowD_B, seenD_B, snocI, snocL, seen_take2, seen_take1, gfl_t1, gfl_d2, gb_app, gb_t2, gb_d3, gb_len, gb_one, ty_3, ty_28, ty_4, ty_24, ty_30, ty_22, ty_25, ty_27, issD_get, hd]; try simp (disch := omega) only [av_w, av_t1, av_tp, Int.toNat_natCast]))
    exact Sub.of_eq (congrArg aB (by simp))
end Go.Proofs.Ytnlaiaklafjamaa


namespace Go.Proofs.Ytnlaiaklafjamaa
set_option linter.unusedSimpArgs false
set_option linter.unusedVariables false
open Go.RowKit
set_option maxRecDepth 100000
set_option maxHeartbeats 8000000
def okLb (x : LotP) : Bool := okIb x.inn && okIb x.perm
theorem okL_b {x : LotP} (h : okLb x = true) : OkL x := by
  unfold okLb at h
  simp only [Bool.and_eq_true] at h
  exact ⟨(okI_b h.1).1, (okI_b h.2).1, (okI_b h.1).2, (okI_b h.2).2⟩
def okSb (s : SeenP) : Bool := okFb s.flow && decide (s.reach.length ≤ 140737488351232) && s.reach.all fun l => decide (l.length ≤ 140737488351232)
theorem okS_of {s : SeenP} (hf : OkF s.flow) (hr : s.reach.length ≤ 140737488351232) (h : ∀ l ∈ s.reach, l.length ≤ 140737488351232) : OkS s :=
  ⟨hf, hr, fun k => by
    rcases Nat.lt_or_ge k s.reach.length with hk | hk
    · rw [List.getD, List.getElem?_eq_getElem hk]; exact h _ (by simp)
    · rw [List.getD, List.getElem?_eq_none hk]; simp⟩
theorem okS_b {s : SeenP} (h : okSb s = true) : OkS s := by
  unfold okSb at h
  simp only [Bool.and_eq_true, List.all_eq_true, decide_eq_true_eq] at h
  exact okS_of (okF_b h.1.1) h.1.2 h.2
theorem ex_start {n : Int} (S : SeenP) (e : Int) (hn : -9223372036854775808 ≤ n ∧ n ≤ 9223372036854775807) (h1 : startR n = S) (h2 : startE n = e) : Spec Try.prog 10 [aI n] (.rt [.agg (seenD S), aI e]) := by
  subst h1 h2
  exact gstart_spec n hn
theorem ex_add {xs xl : A} {s : SeenP} {x : LotP} (S : SeenP) (c : List Int) (e : Int) (hs : Sub xs (.agg (seenD s))) (hx : Sub xl (.agg (lotD x))) (h1 : okSb s = true) (h2 : okLb x = true) (h3 : addG s x = S) (h4 : addC s x = c) (h5 : addE s x = e) :
    Spec Try.prog 12 [xs, xl] (.rt [.agg (seenD S), aIs c, aI e]) := by
  subst h3 h4 h5
  exact (gadd30_spec s x (okS_b h1) (okL_b h2)).args ⟨hs, hx, trivial⟩
abbrev S3 : SeenP := ⟨⟨3, []⟩, [[0], [1], [2]]⟩
abbrev SX : SeenP := ⟨⟨3, [⟨[0, 1], false, []⟩]⟩, [[3, 4], [3, 4], [2]]⟩
abbrev SY : SeenP := ⟨⟨3, [⟨[0, 1], false, []⟩, ⟨[4], true, [0]⟩]⟩, [[3, 5], [3, 5], [2]]⟩
abbrev xLu (l : List Int) : A := .agg [isL l, .c (.bool false), nilL]
abbrev xLk (l p : List Int) : A := .agg [isL l, .c (.bool true), isL p]
theorem sLu (l : List Int) : Sub (xLu l) (.agg (lotD ⟨l, false, []⟩)) := Sub.aggL ⟨sub_is _, SubD.refl _, sub_nil, trivial⟩
theorem sLk (l p : List Int) : Sub (xLk l p) (.agg (lotD ⟨l, true, p⟩)) := Sub.aggL ⟨sub_is _, SubD.refl _, sub_is _, trivial⟩
abbrev xIss2 (a b : List Int) : D := .sl 1 (zD (.slice none 0 0)) [[isL a], [isL b]]
abbrev xS2 (a b : List Int) : A := .agg [iL 2, nilL, xIss2 a b]
theorem sub_iss2 (a b : List Int) : SubD (xIss2 a b) (.sl 1 (issD []) ([a, b].map issD)) := SubD.sl ⟨⟨sub_is _, trivial⟩, ⟨sub_is _, trivial⟩, trivial⟩
theorem sS2 (a b : List Int) : Sub (xS2 a b) (.agg (seenD ⟨⟨2, []⟩, [a, b]⟩)) := Sub.aggL ⟨SubD.refl _, sub_nil, sub_iss2 a b, trivial⟩
abbrev xIss3 (a b c : List Int) : A := .one (.sl 1 (zD (.slice none 0 0)) [[isL a], [isL b], [isL c]])
theorem sIss3 (a b c : List Int) : Sub (xIss3 a b c) (aIss [a, b, c]) := fun F w v hv => SubD.sl (sz := 1) (d0 := zD (.slice none 0 0)) (d1 := [.sl 1 (intD 0) []]) (es := [[isL a], [isL b], [isL c]]) (fs := [[.sl 1 (intD 0) (a.map intD)], [.sl 1 (intD 0) (b.map intD)], [.sl 1 (intD 0) (c.map intD)]]) ⟨⟨sub_is _, trivial⟩, ⟨sub_is _, trivial⟩, ⟨sub_is _, trivial⟩, trivial⟩ F w v hv
theorem same3 (a b c : List Int) (h : a.length ≤ 100 ∧ b.length ≤ 100 ∧ c.length ≤ 100) : Spec Try.prog 20 [aIss [a, b, c], xIss3 a b c] (.r1 (aB true)) := by
  have e5 := qwsame_spec [a, b, c] [a, b, c] (by
    intro k
    match k with
    | 0 => simp; omega
    | 1 => simp; omega
    | 2 => simp; omega
    | k + 3 => simp) (by simp) (by simp)
  rw [show decide ([a, b, c] = [a, b, c]) = true by simp] at e5
  exact e5.args ⟨Sub.refl _, sIss3 a b c, trivial⟩
theorem gsane30_spec : Spec Try.prog 8 [] (.r1 (aB true)) := by
  refine spec_of T_ok Try.func8 (by dsimp only [Try.f8]) rfl rfl (by simp) fun w F => ?_
  have a1 := ex_start (n := -1) default 250 (by omega) (by decide +kernel) (by decide +kernel)
  have a2 := ex_start (n := 65) default 2 (by omega) (by decide +kernel) (by decide +kernel)
  have a3 := ex_start (n := 3) S3 0 (by omega) (by decide +kernel) (by decide +kernel)
  have a4 := ex_add SX [0, 1] 0 (Sub.refl (.agg (seenD S3))) (sLu [0, 1]) (by decide +kernel) (by decide +kernel) (by decide +kernel) (by decide +kernel) (by decide +kernel)
  have a5 := ex_add default [] 250 (sS2 [0] [1]) (sLu [2]) (by decide +kernel) (by decide +kernel) (by decide +kernel) (by decide +kernel) (by decide +kernel)
  have a6 := ex_add default [] 250 (sS2 [0] [0]) (sLu [0]) (by decide +kernel) (by decide +kernel) (by decide +kernel) (by decide +kernel) (by decide +kernel)
  have a7 := ex_add SY [0, 1] 0 (Sub.refl (.agg (seenD SX))) (sLk [4] [0]) (by decide +kernel) (by decide +kernel) (by decide +kernel) (by decide +kernel) (by decide +kernel)
  have e1 := same3 [0] [1] [2] (by decide)
  have e2 := same3 [3, 4] [3, 4] [2] (by decide)
  have e3 := same3 [3, 5] [3, 5] [2] (by decide)
  have e4 := sameInts_spec [0, 1] [0, 1] (by decide)
  repeat' (first
    | (with_reducible refine aw_seq ?_)
    | ((with_reducible refine twoG_intro ?_ ?_) <;> intro hTw <;> first | (exact Bool.noConfusion hTw) | ((try simp only [hTw, Bool.not_true, Bool.not_false, Bool.true_and, Bool.false_and, Bool.and_true, Bool.and_false, Bool.true_or, Bool.false_or, Bool.or_true, Bool.or_false]); (first | (guard_hyp hTw : true = true; clear hTw) | (guard_hyp hTw : false = false; clear hTw) | (revert hTw; intro _))))
    | ((with_reducible refine two_intro ?_ ?_) <;> intro hTw <;> first | (exact Bool.noConfusion hTw) | ((first | (guard_hyp hTw : true = true; clear hTw) | (guard_hyp hTw : false = false; clear hTw) | (revert hTw; intro _))))
    | ((with_reducible refine And.intro ?_ ?_); (focus (first | omega | rfl | decide | grind)))
    | (with_reducible refine aw_block ?_)
    | (with_reducible refine aw_scope ?_)
    | ((first
        | ((with_reducible refine aw_regionA T_ok ?_ ?_); (focus kernel_rfl))
        | ((with_reducible refine aw_drawnA T_ok ?_ ?_ ?_ ?_); (focus kernel_rfl); (focus kernel_rfl); (focus (decide +kernel)))
        | ((with_reducible refine aw_drawnF T_ok ?_ ?_ ?_ ?_); (focus kernel_rfl); (focus kernel_rfl); (focus (decide +kernel)))
        | ((with_reducible refine callK_intro (a1) (by with_unfolding_all rfl) ?_ ?_); (focus kernel_rfl))
        | ((with_reducible refine callI_spec (a1) (by with_unfolding_all rfl) ?_ ?_ ?_); (focus kernel_rfl); (focus kernel_rfl))
        | ((with_reducible refine callK_intro (a2) (by with_unfolding_all rfl) ?_ ?_); (focus kernel_rfl))
        | ((with_reducible refine callI_spec (a2) (by with_unfolding_all rfl) ?_ ?_ ?_); (focus kernel_rfl); (focus kernel_rfl))
        | ((with_reducible refine callK_intro (a3) (by with_unfolding_all rfl) ?_ ?_); (focus kernel_rfl))
        | ((with_reducible refine callI_spec (a3) (by with_unfolding_all rfl) ?_ ?_ ?_); (focus kernel_rfl); (focus kernel_rfl))
        | ((with_reducible refine callK_intro (a4) (by with_unfolding_all rfl) ?_ ?_); (focus kernel_rfl))
        | ((with_reducible refine callI_spec (a4) (by with_unfolding_all rfl) ?_ ?_ ?_); (focus kernel_rfl); (focus kernel_rfl))
        | ((with_reducible refine callK_intro (a5) (by with_unfolding_all rfl) ?_ ?_); (focus kernel_rfl))
        | ((with_reducible refine callI_spec (a5) (by with_unfolding_all rfl) ?_ ?_ ?_); (focus kernel_rfl); (focus kernel_rfl))
        | ((with_reducible refine callK_intro (a6) (by with_unfolding_all rfl) ?_ ?_); (focus kernel_rfl))
        | ((with_reducible refine callI_spec (a6) (by with_unfolding_all rfl) ?_ ?_ ?_); (focus kernel_rfl); (focus kernel_rfl))
        | ((with_reducible refine callK_intro (a7) (by with_unfolding_all rfl) ?_ ?_); (focus kernel_rfl))
        | ((with_reducible refine callI_spec (a7) (by with_unfolding_all rfl) ?_ ?_ ?_); (focus kernel_rfl); (focus kernel_rfl))
        | ((with_reducible refine callK_intro (e1) (by with_unfolding_all rfl) ?_ ?_); (focus kernel_rfl))
        | ((with_reducible refine callI_spec (e1) (by with_unfolding_all rfl) ?_ ?_ ?_); (focus kernel_rfl); (focus kernel_rfl))
        | ((with_reducible refine callK_intro (e2) (by with_unfolding_all rfl) ?_ ?_); (focus kernel_rfl))
        | ((with_reducible refine callI_spec (e2) (by with_unfolding_all rfl) ?_ ?_ ?_); (focus kernel_rfl); (focus kernel_rfl))
        | ((with_reducible refine callK_intro (e3) (by with_unfolding_all rfl) ?_ ?_); (focus kernel_rfl))
        | ((with_reducible refine callI_spec (e3) (by with_unfolding_all rfl) ?_ ?_ ?_); (focus kernel_rfl); (focus kernel_rfl))
        | ((with_reducible refine callK_intro (e4) (by with_unfolding_all rfl) ?_ ?_); (focus kernel_rfl))
        | ((with_reducible refine callI_spec (e4) (by with_unfolding_all rfl) ?_ ?_ ?_); (focus kernel_rfl); (focus kernel_rfl))
        | (with_reducible refine aw_label ?_)
        | ((with_reducible refine aw_rfM ?_ ?_); (focus kernel_rfl))
        | (with_reducible refine aw_skip ?_)
        | (with_reducible refine aw_exit ?_)
        | ((with_reducible refine aw_condM ?_ ?_); (focus kernel_rfl))
        | (with_reducible refine aw_ret ?_)
      ); simp only [↓avP, avQ, if_true, if_false, forall_const, beq_self_eq_true, eq_self, ne_eq, implies_true, reduceIte, Nat.reduceEqDiff, Nat.reduceAdd, Nat.reduceSub, Int.reduceToNat, Nat.reduceLeDiff, Nat.reduceLT, reduceCtorEq, Int.reduceEq, retQ, retL, resV, RetV, RetOk, SubL, intD_B, lotD_B, flowD_B, seenD_B, snocI, snocL, seen_take2, seen_take1, gfl_t1, gfl_d2, ty_3, ty_28, ty_4, ty_24, ty_30, ty_22, ty_25, ty_27, issD_get]; try simp (disch := omega) only [av_w, av_t1, av_tp, Int.toNat_natCast]))
  all_goals exact Sub.of_eq (congrArg aB (by decide))
end Go.Proofs.Ytnlaiaklafjamaa


namespace Go.Proofs.Ytnlaiaklafjamaa
set_option linter.unusedSimpArgs false
set_option linter.unusedVariables false
open Go.RowKit
set_option maxRecDepth 100000
set_option maxHeartbeats 8000000
theorem matR_okS (f : FlowP) : (matR f).length ≤ 140737488351232 ∧ ∀ l ∈ matR f, l.length ≤ 140737488351232 := by
  refine ⟨by have := matR_len f; omega, fun l hl => ?_⟩
  obtain ⟨k, hk, rfl⟩ := List.getElem_of_mem hl
  have := matR_at f k
  rw [List.getD, List.getElem?_eq_getElem hk] at this
  exact Nat.le_trans this (by omega)
theorem okS_mat {f : FlowP} (hf : OkF f) : OkS ⟨f, matR f⟩ := okS_of hf (matR_okS f).1 (matR_okS f).2
theorem okS_default : OkS default := okS_of ⟨by decide, by decide, by intro x hx; cases hx⟩ (by decide) (by intro l hl; cases hl)
end Go.Proofs.Ytnlaiaklafjamaa


namespace Go.Proofs.Ytnlaiaklafjamaa
set_option linter.unusedSimpArgs false
set_option linter.unusedVariables false
open Go.RowKit
set_option maxRecDepth 100000
set_option maxHeartbeats 8000000
theorem check_none {n : Int} (h : 0 ≤ n ∧ n ≤ 64) : checkF ⟨n, []⟩ = 0 := by
  unfold checkF validF befF
  simp
  omega
theorem startR_ok {n : Int} (h : 0 ≤ n ∧ n ≤ 64) : startE n = 0 ∧ startR n = ⟨⟨n, []⟩, matR ⟨n, []⟩⟩ := by
  have := check_none h
  exact ⟨this, by rw [startR, if_pos (show startE n = 0 from this)]⟩
theorem addE_mat {f : FlowP} (hc : checkF f = 0) (x : LotP) : addE ⟨f, matR f⟩ x = checkF (moreF f x) := by rw [addE, if_neg (by simpa using hc), if_pos rfl]
/-- .. taken -/
theorem add_good {f : FlowP} {x : LotP} (hf : OkF f) (hx : OkL x) (hc : checkF f = 0) (hb : checkF (moreF f x) = 0) {N : Nat} (hN : f.senders = N) : Spec Try.prog 12 [.agg (seenD ⟨f, matR f⟩), .agg (lotD x)] (.rt [.agg (seenD ⟨moreF f x, matR (moreF f x)⟩), aIs (chgL f x N), aI 0]) := by
  have h := gadd30_spec ⟨f, matR f⟩ x (okS_mat hf) hx
  rw [addG, addC, addE_mat hc, if_pos hb, if_pos hb, hb] at h
  have e : chgL (⟨f, matR f⟩ : SeenP).flow x (⟨f, matR f⟩ : SeenP).flow.senders.toNat = chgL f x N := by
    show chgL f x f.senders.toNat = _
    rw [hN]; rfl
  rwa [e] at h
theorem matR_N {f : FlowP} (hc : checkF f = 0) {N : Nat} (hN : f.senders = N) : matR f = matA f N := by rw [matR, if_pos hc, hN]; rfl
theorem same_seen0 : Spec Try.prog 14 [.agg (seenD default), .agg [.c (.int .i64 0), nilL, nilL]] (.r1 (aB true)) := by
  have h := qgsame_spec default default okS_default okS_default
  simp only [decide_true, Bool.and_self] at h
  exact h.args ⟨Sub.refl _, sub_seen0, trivial⟩
end Go.Proofs.Ytnlaiaklafjamaa


namespace Go.Proofs.Ytnlaiaklafjamaa
set_option linter.unusedSimpArgs false
set_option linter.unusedVariables false
open Go.RowKit
set_option maxRecDepth 100000
set_option maxHeartbeats 8000000
theorem seen_drop3 (x : SeenP) : List.drop 3 (dV (seenD x)) = [] := rfl
def rightU (f : FlowP) : Bool := fewW f && decide (f.lots.length ≤ 10) && (checkF f == 0)
def rightS (f : FlowP) : SeenP := if rightU f = true then ⟨f, matR f⟩ else default
theorem take_succF {f : FlowP} {k : Nat} (hk : k < f.lots.length) : moreF (takeF f k) (f.lots.getD k default) = takeF f (k + 1) := by
  show (⟨f.senders, f.lots.take k ++ [f.lots.getD k default]⟩ : FlowP) = ⟨f.senders, f.lots.take (k + 1)⟩
  rw [List.take_succ_eq_append_getElem hk]
  have : f.lots.getD k default = f.lots[k] := by simp [List.getD, hk]
  rw [this]
theorem take_allF (f : FlowP) : takeF f f.lots.length = f := by
  show (⟨f.senders, f.lots.take f.lots.length⟩ : FlowP) = f
  rw [List.take_length]
theorem rightU_iff {f : FlowP} : rightU f = true ↔ fewW f = true ∧ f.lots.length ≤ 10 ∧ checkF f = 0 := by
  unfold rightU
  simp only [Bool.and_eq_true, decide_eq_true_eq, beq_iff_eq, and_assoc]
theorem gright_spec (f : FlowP) (hf : OkF f) : Spec Try.prog 21 [.agg (flowD f)] (.rt [.agg (seenD (rightS f)), aB (rightU f), aB true]) := by
  refine spec_of T_ok Try.func21 (by dsimp only [Try.f21]) rfl rfl (by simp) fun w F => ?_
  have hW := qwfew_spec f hf.l
  have hQ := qfcheck_spec f hf
  have hfl := hf.l
  by_cases hu : fewW f = true ∧ f.lots.length ≤ 10 ∧ checkF f = 0
  rotate_left
  · have hU : rightU f = false := by
      cases h : rightU f with
      | false => rfl
      | true => exact (hu (rightU_iff.1 h)).elim
    have hS : rightS f = default := by rw [rightS, hU]; rfl
    rw [hS, hU]
    have hd : (!fewW f || decide ((f.lots.length : Int) > 10) || checkF f != 0) = true := by
      cases h1 : fewW f with
      | false => rfl
      | true =>
        by_cases h2 : f.lots.length ≤ 10
        · have h3 : checkF f ≠ 0 := fun h => hu ⟨h1, h2, h⟩
          simp [h3]
        · have : decide ((f.lots.length : Int) > 10) = true := decide_eq_true (by omega)
          rw [this]; rfl
    repeat' (first
      | (with_reducible refine aw_seq ?_)
      | ((with_reducible refine twoG_intro ?_ ?_) <;> intro hTw <;> first | (exact Bool.noConfusion hTw) | ((try simp only [hTw, Bool.not_true, Bool.not_false, Bool.true_and, Bool.false_and, Bool.and_true, Bool.and_false, Bool.true_or, Bool.false_or, Bool.or_true, Bool.or_false]); (first | (guard_hyp hTw : true = true; clear hTw) | (guard_hyp hTw : false = false; clear hTw) | (revert hTw; intro _))))
      | ((with_reducible refine two_intro ?_ ?_) <;> intro hTw <;> first | (exact Bool.noConfusion hTw) | ((first | (guard_hyp hTw : true = true; clear hTw) | (guard_hyp hTw : false = false; clear hTw) | (revert hTw; intro _))))
      | ((with_reducible refine And.intro ?_ ?_); (focus (first | omega | rfl | decide | grind)))
      | (with_reducible refine aw_block ?_)
      | (with_reducible refine aw_scope ?_)
      | ((first
          | ((with_reducible refine aw_regionA T_ok ?_ ?_); (focus kernel_rfl))
          | ((with_reducible refine aw_drawnA T_ok ?_ ?_ ?_ ?_); (focus kernel_rfl); (focus kernel_rfl); (focus (decide +kernel)))
          | ((with_reducible refine aw_drawnF T_ok ?_ ?_ ?_ ?_); (focus kernel_rfl); (focus kernel_rfl); (focus (decide +kernel)))
          | ((with_reducible refine callK_intro (hW) (by with_unfolding_all rfl) ?_ ?_); (focus kernel_rfl))
          | ((with_reducible refine callI_spec (hW) (by with_unfolding_all rfl) ?_ ?_ ?_); (focus kernel_rfl); (focus kernel_rfl))
          | ((with_reducible refine callK_intro (hQ) (by with_unfolding_all rfl) ?_ ?_); (focus kernel_rfl))
          | ((with_reducible refine callI_spec (hQ) (by with_unfolding_all rfl) ?_ ?_ ?_); (focus kernel_rfl); (focus kernel_rfl))
          | (with_reducible refine aw_label ?_)
          | ((with_reducible refine aw_rfM ?_ ?_); (focus kernel_rfl))
          | (with_reducible refine aw_skip ?_)
          | (with_reducible refine aw_exit ?_)
          | ((with_reducible refine aw_condM ?_ ?_); (focus kernel_rfl))
          | (with_reducible refine aw_ret ?_)
        ); simp only [↓avP, avQ, if_true, if_false, forall_const, beq_self_eq_true, eq_self, ne_eq, implies_true, reduceIte, Nat.reduceEqDiff, Nat.reduceAdd, Nat.reduceSub, Int.reduceToNat, Nat.reduceLeDiff, Nat.reduceLT, reduceCtorEq, Int.reduceEq, retQ, retL, resV, RetV, RetOk, SubL, intD_B, lotD_B, flowD_B, seenD_B, snocI, snocL, seen_take2, seen_take1, seen_drop3, ty_3, ty_28, ty_4, ty_24, ty_30, ty_22, ty_25, ty_27, issD_get, hd]; try simp (disch := omega) only [av_w, av_t1, av_tp, Int.toNat_natCast]))
    exact ⟨sub_seen0, Sub.refl _, Sub.refl _⟩
  have hU : rightU f = true := rightU_iff.2 hu
  have hS : rightS f = ⟨f, matR f⟩ := by rw [rightS, hU]; rfl
  rw [hS, hU]
  obtain ⟨h1, h2, hc⟩ := hu
  rw [h1] at hW
  have hd1 : decide ((f.lots.length : Int) > 10) = false := decide_eq_false (by omega)
  rw [hc] at hQ
  obtain ⟨z1, z2, z3, z4, z5⟩ := checkF_zero hc
  have hs0 := gstart_spec f.senders (by omega)
  obtain ⟨e1, e2⟩ := startR_ok (n := f.senders) (by omega)
  rw [e1, e2] at hs0
  have hM0 : (matR f).length = f.senders.toNat := by rw [matR, if_pos hc]; exact matA_len _ _
  have hMl : (((matR f).length : Int) == f.senders) = true := by rw [beq_iff_eq]; omega
  have hq := qfsame_spec f f hf hf
  simp only [decide_true] at hq
  repeat' (first
    | (with_reducible refine aw_seq ?_)
    | ((with_reducible refine twoG_intro ?_ ?_) <;> intro hTw <;> first | (exact Bool.noConfusion hTw) | ((try simp only [hTw, Bool.not_true, Bool.not_false, Bool.true_and, Bool.false_and, Bool.and_true, Bool.and_false, Bool.true_or, Bool.false_or, Bool.or_true, Bool.or_false]); (first | (guard_hyp hTw : true = true; clear hTw) | (guard_hyp hTw : false = false; clear hTw) | (revert hTw; intro _))))
    | ((with_reducible refine two_intro ?_ ?_) <;> intro hTw <;> first | (exact Bool.noConfusion hTw) | ((first | (guard_hyp hTw : true = true; clear hTw) | (guard_hyp hTw : false = false; clear hTw) | (revert hTw; intro _))))
    | ((with_reducible refine And.intro ?_ ?_); (focus (first | omega | rfl | decide | grind)))
    | (with_reducible refine aw_block ?_)
    | (with_reducible refine aw_scope ?_)
    | ((first
        | ((with_reducible refine aw_regionA T_ok ?_ ?_); (focus kernel_rfl))
        | ((with_reducible refine aw_drawnA T_ok ?_ ?_ ?_ ?_); (focus kernel_rfl); (focus kernel_rfl); (focus (decide +kernel)))
        | ((with_reducible refine aw_drawnF T_ok ?_ ?_ ?_ ?_); (focus kernel_rfl); (focus kernel_rfl); (focus (decide +kernel)))
        | ((with_reducible refine callK_intro (hW) (by with_unfolding_all rfl) ?_ ?_); (focus kernel_rfl))
        | ((with_reducible refine callI_spec (hW) (by with_unfolding_all rfl) ?_ ?_ ?_); (focus kernel_rfl); (focus kernel_rfl))
        | ((with_reducible refine callK_intro (hQ) (by with_unfolding_all rfl) ?_ ?_); (focus kernel_rfl))
        | ((with_reducible refine callI_spec (hQ) (by with_unfolding_all rfl) ?_ ?_ ?_); (focus kernel_rfl); (focus kernel_rfl))
        | ((with_reducible refine callK_intro (hs0) (by with_unfolding_all rfl) ?_ ?_); (focus kernel_rfl))
        | ((with_reducible refine callI_spec (hs0) (by with_unfolding_all rfl) ?_ ?_ ?_); (focus kernel_rfl); (focus kernel_rfl))
        | (with_reducible refine aw_label ?_)
        | ((with_reducible refine aw_rfM ?_ ?_); (focus kernel_rfl))
        | (with_reducible refine aw_skip ?_)
        | (with_reducible refine aw_exit ?_)
        | ((with_reducible refine aw_condM ?_ ?_); (focus kernel_rfl))
        | (with_reducible refine aw_ret ?_)
      ); simp only [↓avP, avQ, if_true, if_false, forall_const, beq_self_eq_true, eq_self, ne_eq, implies_true, reduceIte, Nat.reduceEqDiff, Nat.reduceAdd, Nat.reduceSub, Int.reduceToNat, Nat.reduceLeDiff, Nat.reduceLT, reduceCtorEq, Int.reduceEq, retQ, retL, resV, RetV, RetOk, SubL, intD_B, lotD_B, flowD_B, seenD_B, snocI, snocL, seen_take2, seen_take1, seen_drop3, ty_3, ty_28, ty_4, ty_24, ty_30, ty_22, ty_25, ty_27, issD_get, hd1]; try simp (disch := omega) only [av_w, av_t1, av_tp, Int.toNat_natCast]))
  refine aw_loopI (fun k : Nat => ⟨[(1, .ptr 0 0), (2, .ptr 1 0), (33, .d (.sl 3 (lotD default) (f.lots.map lotD))), (34, vI f.lots.length), (35, vI k)], [(1, .cells 27 (dV (seenD ⟨takeF f k, matR (takeF f k)⟩))), (0, .cells 24 (dV (flowD f)))], 2⟩)
    (fun k => k ≤ f.lots.length) (fun k => f.lots.length - k) 0 (Nat.zero_le _) (wk_of [(0, some 0), (1, some 1)] rfl rfl ?_ ?_) ?_
  · simp only [wkT, wkB, wkB1, subV, subVs, subD, subB, lkN_n, lkN_c, lkT_n, lkT_c, lkB_n, lkB_c, if_true, if_false, reduceIte, Nat.reduceEqDiff, true_and, and_true, and_self, inT, ofA]
    (repeat' (first | exact trivial | rfl | exact rfl | exact subVs_d _ _ | exact subVs_dm _ _ | exact subD_refl _ | refine And.intro ?_ ?_))
  · simp only [wkT, wkB, wkB1, subV, subVs, subD, subB, lkN_n, lkN_c, lkT_n, lkT_c, lkB_n, lkB_c, if_true, if_false, reduceIte, Nat.reduceEqDiff, true_and, and_true, and_self, inT, ofA]
    (repeat' (first | exact trivial | rfl | exact rfl | exact subVs_d _ _ | exact subVs_dm _ _ | exact subD_refl _ | refine And.intro ?_ ?_))
  intro k hk
  rcases Nat.lt_or_ge k f.lots.length with hlt | hge
  · have hd2 := ltd hlt
    have hx := hf.at k
    have hts := take_succF hlt
    have hA := add_good (hf.take k) hx (check_take hc hk) (by rw [hts]; exact check_take hc (by omega)) (N := f.senders.toNat) (by show f.senders = _; omega)
    rw [hts] at hA
    obtain ⟨x, hxe⟩ : ∃ x, x = f.lots.getD k default := ⟨_, rfl⟩
    rw [← hxe] at hA
    obtain ⟨f1, hf1⟩ : ∃ g, g = takeF f k := ⟨_, rfl⟩
    obtain ⟨f2, hf2⟩ : ∃ g, g = takeF f (k + 1) := ⟨_, rfl⟩
    rw [← hf1, ← hf2] at hA
    rw [← hf1]
    repeat' (first
      | (with_reducible refine aw_seq ?_)
      | ((with_reducible refine twoG_intro ?_ ?_) <;> intro hTw <;> first | (exact Bool.noConfusion hTw) | ((try simp only [hTw, Bool.not_true, Bool.not_false, Bool.true_and, Bool.false_and, Bool.and_true, Bool.and_false, Bool.true_or, Bool.false_or, Bool.or_true, Bool.or_false]); (first | (guard_hyp hTw : true = true; clear hTw) | (guard_hyp hTw : false = false; clear hTw) | (revert hTw; intro _))))
      | ((with_reducible refine two_intro ?_ ?_) <;> intro hTw <;> first | (exact Bool.noConfusion hTw) | ((first | (guard_hyp hTw : true = true; clear hTw) | (guard_hyp hTw : false = false; clear hTw) | (revert hTw; intro _))))
      | ((with_reducible refine And.intro ?_ ?_); (focus (first | omega | rfl | decide | grind)))
      | (with_reducible refine aw_block ?_)
      | (with_reducible refine aw_scope ?_)
      | ((first
          | ((with_reducible refine aw_regionA T_ok ?_ ?_); (focus kernel_rfl))
          | ((with_reducible refine aw_drawnA T_ok ?_ ?_ ?_ ?_); (focus kernel_rfl); (focus kernel_rfl); (focus (decide +kernel)))
          | ((with_reducible refine aw_drawnF T_ok ?_ ?_ ?_ ?_); (focus kernel_rfl); (focus kernel_rfl); (focus (decide +kernel)))
          | ((with_reducible refine callK_intro (hA) (by with_unfolding_all rfl) ?_ ?_); (focus kernel_rfl))
          | ((with_reducible refine callI_spec (hA) (by with_unfolding_all rfl) ?_ ?_ ?_); (focus kernel_rfl); (focus kernel_rfl))
          | (with_reducible refine aw_label ?_)
          | ((with_reducible refine aw_rfM ?_ ?_); (focus kernel_rfl))
          | (with_reducible refine aw_skip ?_)
          | (with_reducible refine aw_exit ?_)
          | ((with_reducible refine aw_condM ?_ ?_); (focus kernel_rfl))
          | (with_reducible refine aw_ret ?_)
        ); simp only [↓avP, avQ, if_true, if_false, forall_const, beq_self_eq_true, eq_self, ne_eq, implies_true, reduceIte, Nat.reduceEqDiff, Nat.reduceAdd, Nat.reduceSub, Int.reduceToNat, Nat.reduceLeDiff, Nat.reduceLT, reduceCtorEq, Int.reduceEq, retQ, retL, resV, RetV, RetOk, SubL, intD_B, lotD_B, flowD_B, seenD_B, snocI, snocL, seen_take2, seen_take1, seen_drop3, ty_3, ty_28, ty_4, ty_24, ty_30, ty_22, ty_25, ty_27, issD_get, hd2, ← hxe]; try simp (disch := omega) only [av_w, av_t1, av_tp, Int.toNat_natCast]))
    rw [hf2]
    refine ⟨k + 1, by omega, by dsimp only; omega, wk_of [(0, some 0), (1, some 1)] rfl rfl ?_ ?_⟩
    · simp only [wkT, wkB, wkB1, subV, subVs, subD, subB, lkN_n, lkN_c, lkT_n, lkT_c, lkB_n, lkB_c, if_true, if_false, reduceIte, Nat.reduceEqDiff, true_and, and_true, and_self, inT, ofA]
      (repeat' (first | exact trivial | rfl | exact rfl | exact subVs_d _ _ | exact subVs_dm _ _ | exact subD_refl _ | refine And.intro ?_ ?_))
    · simp only [wkT, wkB, wkB1, subV, subVs, subD, subB, lkN_n, lkN_c, lkT_n, lkT_c, lkB_n, lkB_c, if_true, if_false, reduceIte, Nat.reduceEqDiff, true_and, and_true, and_self, inT, ofA]
      (repeat' (first | exact trivial | rfl | exact rfl | exact subVs_d _ _ | exact subVs_dm _ _ | exact subD_refl _ | refine And.intro ?_ ?_))
  obtain rfl : k = f.lots.length := by omega
  have hd2 := ged (Nat.le_refl f.lots.length)
  rw [take_allF]
  repeat' (first
    | (with_reducible refine aw_seq ?_)
    | ((with_reducible refine twoG_intro ?_ ?_) <;> intro hTw <;> first | (exact Bool.noConfusion hTw) | ((try simp only [hTw, Bool.not_true, Bool.not_false, Bool.true_and, Bool.false_and, Bool.and_true, Bool.and_false, Bool.true_or, Bool.false_or, Bool.or_true, Bool.or_false]); (first | (guard_hyp hTw : true = true; clear hTw) | (guard_hyp hTw : false = false; clear hTw) | (revert hTw; intro _))))
    | ((with_reducible refine two_intro ?_ ?_) <;> intro hTw <;> first | (exact Bool.noConfusion hTw) | ((first | (guard_hyp hTw : true = true; clear hTw) | (guard_hyp hTw : false = false; clear hTw) | (revert hTw; intro _))))
    | ((with_reducible refine And.intro ?_ ?_); (focus (first | omega | rfl | decide | grind)))
    | (with_reducible refine aw_block ?_)
    | (with_reducible refine aw_scope ?_)
    | ((first
        | ((with_reducible refine aw_regionA T_ok ?_ ?_); (focus kernel_rfl))
        | ((with_reducible refine aw_drawnTX (id := 13) 13 1 [0,1,2,3,4,5,6,7,8,9,10,11,12,14] [15] T_ok ?_ ?_ ?_ ?_ ?_); (focus kernel_rfl); (focus kernel_rfl); (focus (decide +kernel)); (focus kernel_rfl))
        | ((with_reducible refine aw_drawnA T_ok ?_ ?_ ?_ ?_); (focus kernel_rfl); (focus kernel_rfl); (focus (decide +kernel)))
        | ((with_reducible refine aw_drawnF T_ok ?_ ?_ ?_ ?_); (focus kernel_rfl); (focus kernel_rfl); (focus (decide +kernel)))
        | ((with_reducible refine callK_intro (hq) (by with_unfolding_all rfl) ?_ ?_); (focus kernel_rfl))
        | ((with_reducible refine callI_spec (hq) (by with_unfolding_all rfl) ?_ ?_ ?_); (focus kernel_rfl); (focus kernel_rfl))
        | (with_reducible refine fin2_intro ?_)
        | (with_reducible refine aw_label ?_)
        | ((with_reducible refine aw_rfM ?_ ?_); (focus kernel_rfl))
        | (with_reducible refine aw_skip ?_)
        | (with_reducible refine aw_exit ?_)
        | ((with_reducible refine aw_condM ?_ ?_); (focus kernel_rfl))
        | (with_reducible refine aw_ret ?_)
      ); simp only [↓avP, avQ, if_true, if_false, forall_const, beq_self_eq_true, eq_self, ne_eq, implies_true, reduceIte, Nat.reduceEqDiff, Nat.reduceAdd, Nat.reduceSub, Int.reduceToNat, Nat.reduceLeDiff, Nat.reduceLT, reduceCtorEq, Int.reduceEq, ↓earlyK.eq_def, tailX, Nat.reduceBEq, retQ, retL, resV, RetV, RetOk, SubL, intD_B, lotD_B, flowD_B, seenD_B, snocI, snocL, seen_take2, seen_take1, seen_drop3, ty_3, ty_28, ty_4, ty_24, ty_30, ty_22, ty_25, ty_27, issD_get, hd2, hMl]; try simp (disch := omega) only [av_w, av_t1, av_tp, Int.toNat_natCast]))
  all_goals (repeat' (first | exact Sub.refl _ | exact trivial | refine And.intro ?_ ?_))
end Go.Proofs.Ytnlaiaklafjamaa

