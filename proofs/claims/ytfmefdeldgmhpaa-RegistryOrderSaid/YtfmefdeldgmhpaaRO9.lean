import Derived.Test.YtfmefdeldgmhpaaRO8
import Derived.Test.YtfmefdeldgmhpaaRO1
import Derived.Test.YtfmefdeldgmhpaaRO6
import Derived.SizedLaws
import Derived.Test.YtfmefdeldgmhpaaRO2
namespace Go.Proofs.Ytfmefdeldgmhpaa
set_option linter.unusedSimpArgs false
set_option linter.unusedVariables false
open Go.RowKit
set_option maxRecDepth 100000
set_option maxHeartbeats 4000000
theorem Spec.args {P : Program} {f : FuncId} {xs ys : List A} {r : Ret} (h : Spec P f ys r) (hs : SubL xs ys) : Spec P f xs r := fun F w us hF ha => h F w us hF (subL_ok hs ha)
theorem i64_zero : i64 0 := by unfold i64; decide
theorem kindsAt {l : List Ent} (h : ∀ x ∈ l, i64 x.kind) : ∀ k, i64 (l.getD k default).kind := fun k => by
  by_cases hk : k < l.length
  · have : l.getD k default = l[k] := by simp [List.getD, hk]
    rw [this]; exact h _ (List.getElem_mem hk)
  · have : l.getD k default = default := by simp [List.getD, hk]
    rw [this]; exact i64_zero
theorem i64s {l : List Ent} (h : (l.all fun x => decide (-9223372036854775808 ≤ x.kind ∧ x.kind ≤ 9223372036854775807)) = true) : ∀ x ∈ l, i64 x.kind := fun x hx => by
  have := List.all_eq_true.1 h x hx
  simpa [i64] using this
theorem rlives_spec (no a b from_ known : Int) : Spec Try.prog 50 [aI no, aI a, aI b, aI from_, aI known] (.r1 (.agg (entD ⟨no, 1, a, b, from_, 2097152, known, 2097152⟩))) := by
  refine spec_of T_ok Try.func50 (by dsimp only [Try.f50]) rfl rfl (by simp) fun w F => ?_
  repeat' (first
    | (with_reducible refine aw_seq ?_)
    | ((with_reducible refine twoG_intro ?_ ?_) <;> intro hTw <;> first | (exact Bool.noConfusion hTw) | ((try simp only [hTw, Bool.not_true, Bool.not_false, Bool.true_and, Bool.false_and, Bool.and_true, Bool.and_false, Bool.true_or, Bool.false_or, Bool.or_true, Bool.or_false]); (first | (guard_hyp hTw : true = true; clear hTw) | (guard_hyp hTw : false = false; clear hTw) | (revert hTw; intro _))))
    | ((with_reducible refine two_intro ?_ ?_) <;> intro hTw <;> first | (exact Bool.noConfusion hTw) | ((first | (guard_hyp hTw : true = true; clear hTw) | (guard_hyp hTw : false = false; clear hTw) | (revert hTw; intro _))))
    | ((with_reducible refine And.intro ?_ ?_); (focus (first | omega | rfl | decide | grind)))
    | (with_reducible refine aw_block ?_)
    | (with_reducible refine aw_scope ?_)
    | ((first
        | ((with_reducible refine aw_regionA T_ok ?_ ?_); (focus kernel_rfl))
        | ((with_reducible refine aw_drawnA T_ok ?_ ?_ ?_ ?_); (focus kernel_rfl); (focus kernel_rfl); (focus (decide +kernel)))
        | ((with_reducible refine aw_drawnF T_ok ?_ ?_ ?_ ?_); (focus kernel_rfl); (focus kernel_rfl); (focus (decide +kernel)))
        | (with_reducible refine aw_label ?_)
        | ((with_reducible refine aw_rfM ?_ ?_); (focus kernel_rfl))
        | (with_reducible refine aw_skip ?_)
        | (with_reducible refine aw_exit ?_)
        | ((with_reducible refine aw_condM ?_ ?_); (focus kernel_rfl))
        | (with_reducible refine aw_ret ?_)
      ); simp only [↓rwp.eq_def, ↓sop.eq_def, ↓slotK.eq_def, inV, shT, unT, inQ, rfQ, rfEnd, resOf, pickT, setP, ydA, ydQ, rowW, vD, fillV,  ↓gop.eq_def, ↓hop.eq_def, ↓hopH.eq_def, ↓hwp.eq_def, ↓ldV.eq_def, ↓ldK.eq_def, ↓ixK.eq_def, ↓addOff.eq_def, ↓exK.eq_def, ↓notK.eq_def, ↓pickK.eq_def, ↓iop2.eq_def, ↓binK.eq_def, ↓eqop.eq_def, icells, ↓iop.eq_def, ↓cutK.eq_def, ↓lenK.eq_def, ↓lenM.eq_def, tyInt, ↓lookK.eq_def, ↓mpK.eq_def, keyV, allI, fitK, lkM, upM, dlM, kq, ↓cvK.eq_def, ↓mmK.eq_def, ↓biK.eq_def, ↓stK.eq_def, ↓apK.eq_def, ↓apD.eq_def, ↓apM.eq_def, isMo, ↓apS.eq_def, nxt, put, setT, setB, delB, lkT_n, lkT_c, lkB_n, lkB_c, ev, ofC, inT, ofA, ofRet, dV_n, dV_c, getD_enc, toDs_dV, List.head?_cons, List.length_map, Option.toArray_some, Option.toArray_none, Int.toNat_natCast, slOf, TyK.agg, vcells, splice, pickOps, headF, restF, allF, zOf, strip, stripP, gOf, allP, rowV, toDs, toD, toA, toAs, headOps, tailOps, isT, addN, Op.operands, Call.operands, List.map_cons, List.map_nil, List.drop_zero, List.drop_succ_cons, List.take_succ_cons, List.take_zero, List.length_cons, List.length_nil, List.getElem?_cons_zero, List.getElem?_cons_succ, List.getElem?_toArray, Option.bind_some, Option.map_some, Option.map_none, List.append_nil, List.nil_append, List.cons_append, if_true, if_false, reduceIte, Nat.reduceEqDiff, Nat.reduceAdd, Nat.reduceSub, Int.reduceToNat, Nat.reduceLeDiff, Nat.reduceLT, and_false, and_self, Nat.zero_add, Nat.add_zero, reduceCtorEq, Option.getD_some, Option.getD_none, Option.isSome_some, Option.isSome_none, forall_const, true_and, and_true, true_implies, Bool.true_and, Bool.false_and, Bool.and_true, Bool.and_false, Bool.true_or, Bool.false_or, Bool.or_true, Bool.or_false, beq_self_eq_true, zipM, zcells, Value.cells, Value.oneCell', List.toList_toArray, Array.toList_append, Bool.not_not, List.cons.injEq, Int.reduceEq, eq_self, false_and, Bool.not_true, Bool.not_false, ne_eq, not_false_eq_true, imp_self, implies_true, av_bt, av_bf, av_and, av_or, av_nf, av_tt, av_n1, av_n2, av_t1, av_tp, retQ, retL, resV, RetV, RetOk, SubL, entD_len, entD_take, entD_hd, entD_ln, entD_ic, entD_d1, entD_d2, entD_d3, entD_d4, entD_d5, entD_d6, entD_d7, ty_39, ty_3, ty_22, ty_4]; try simp (disch := omega) only [av_w, av_t1, av_tp, Int.toNat_natCast]))
  all_goals exact Sub.refl _
theorem ex_stand (l : List Ent) (d t : Int) (h : List Ent) (e : Int) (hl : l.length ≤ 3) (hk : ∀ x ∈ l, i64 x.kind) (hw : standE l d t = h) (he : errS l d t = e) : Spec Try.prog 23 [aEs l, aI d, aI t] (.rt [aEs h, aI e]) := by
  subst hw he
  exact gstanding_spec l d t (by omega) (kindsAt hk)
theorem ex_add (l : List Ent) (x : Ent) (h : List Ent) (e : Int) (hl : l.length ≤ 3) (hk : ∀ x ∈ l, i64 x.kind) (hx : i64 x.kind) (hw : addL l x = h) (he : errA l x = e) : Spec Try.prog 31 [aEs l, .agg (entD x)] (.rt [aEs h, aI e]) := by
  subst hw he
  exact gadd_spec l x (by omega) (kindsAt hk) hx
theorem ex_check (l : List Ent) (e : Int) (hl : l.length ≤ 3) (hk : ∀ x ∈ l, i64 x.kind) (he : checkL l = e) : Spec Try.prog 28 [aEs l] (.r1 (aI e)) := by
  subst he
  exact gcheck_spec l (by omega) (kindsAt hk)
abbrev L1 : Ent := ⟨1, 1, 7, 3, 10, 2097152, 0, 2097152⟩
abbrev L2 : Ent := ⟨2, 1, 7, 5, 20, 2097152, 30, 2097152⟩
abbrev L3 : Ent := ⟨3, 3, 7, 0, 40, 41, 0, 2097152⟩
theorem rsane_spec : Spec Try.prog 26 [] (.r1 (aB true)) := by
  refine spec_of T_ok Try.func26 (by dsimp only [Try.f26]) rfl rfl (by simp) fun w F => ?_
  have s1 := ex_stand [L1, L2, L3] 25 30 [L2] 0 (by decide) (i64s (by decide)) (by decide) (by decide)
  have s2 := ex_stand [L1, L2, L3] 25 29 [L1] 0 (by decide) (i64s (by decide)) (by decide) (by decide)
  have s3 := ex_stand [L1, L2, L3] 40 30 [L2, L3] 0 (by decide) (i64s (by decide)) (by decide) (by decide)
  have s4 := ex_stand [L1, L2, L3] 9 30 [] 0 (by decide) (i64s (by decide)) (by decide) (by decide)
  have s5 : Spec Try.prog 23 [.one (.c (.slice none 0 0)), aI 0, aI 2097152] (.rt [aEs [], aI 1]) := (ex_stand [] 0 2097152 [] 1 (by decide) (by simp) (by decide) (by decide)).args ⟨Sub.nil _ _, Sub.refl _, Sub.refl _, trivial⟩
  have s6 := ex_add [L1, L2, L3] L2 [] 181 (by decide) (i64s (by decide)) (by unfold i64; decide) (by decide) (by decide)
  have s7 := ex_add [L1, L3] L2 [L1, L2, L3] 0 (by decide) (i64s (by decide)) (by unfold i64; decide) (by decide) (by decide)
  have s8 : Spec Try.prog 31 [.one (.c (.slice none 0 0)), .agg (entD default)] (.rt [aEs [], aI 330]) := (ex_add [] default [] 330 (by decide) (by simp) (by unfold i64; decide) (by decide) (by decide)).args ⟨Sub.nil _ _, Sub.refl _, trivial⟩
  have s9 := ex_check [L1, L2, L3] 0 (by decide) (i64s (by decide)) (by decide)
  have s10 := ex_check [⟨0, 2, 3, 4, 0, 5, 0, 1⟩] 0 (by decide) (i64s (by decide)) (by decide)
  have s11 := ex_check [⟨0, 2, 3, 3, 0, 5, 0, 1⟩] 330 (by decide) (i64s (by decide)) (by decide)
  have s12 := ex_check [⟨0, 2, 3, 4, 5, 5, 0, 1⟩] 330 (by decide) (i64s (by decide)) (by decide)
  have s13 := ex_check [L2, L1] 330 (by decide) (i64s (by decide)) (by decide)
  have e1 := esame_spec [L2] [L2] (by decide)
  have e2 := esame_spec [L1] [L1] (by decide)
  have e3 := esame_spec [L2, L3] [L2, L3] (by decide)
  have e4 := esame_spec [L1, L2, L3] [L1, L2, L3] (by decide)
  repeat' (first
    | (with_reducible refine aw_seq ?_)
    | ((with_reducible refine twoG_intro ?_ ?_) <;> intro hTw <;> first | (exact Bool.noConfusion hTw) | ((try simp only [hTw, Bool.not_true, Bool.not_false, Bool.true_and, Bool.false_and, Bool.and_true, Bool.and_false, Bool.true_or, Bool.false_or, Bool.or_true, Bool.or_false]); (first | (guard_hyp hTw : true = true; clear hTw) | (guard_hyp hTw : false = false; clear hTw) | (revert hTw; intro _))))
    | ((with_reducible refine two_intro ?_ ?_) <;> intro hTw <;> first | (exact Bool.noConfusion hTw) | ((first | (guard_hyp hTw : true = true; clear hTw) | (guard_hyp hTw : false = false; clear hTw) | (revert hTw; intro _))))
    | ((with_reducible refine And.intro ?_ ?_); (focus (first | omega | rfl | decide | grind)))
    | (with_reducible refine aw_block ?_)
    | (with_reducible refine aw_scope ?_)
    | ((first
        | ((with_reducible refine aw_regionA T_ok ?_ ?_); (focus kernel_rfl))
        | ((with_reducible refine aw_drawnA T_ok ?_ ?_ ?_ ?_); (focus kernel_rfl); (focus kernel_rfl); (focus (decide +kernel)))
        | ((with_reducible refine aw_drawnF T_ok ?_ ?_ ?_ ?_); (focus kernel_rfl); (focus kernel_rfl); (focus (decide +kernel)))
        | ((with_reducible refine callK_intro (rlives_spec _ _ _ _ _) (by with_unfolding_all rfl) ?_ ?_); (focus kernel_rfl))
        | ((with_reducible refine callI_spec (rlives_spec _ _ _ _ _) (by with_unfolding_all rfl) ?_ ?_ ?_); (focus kernel_rfl); (focus kernel_rfl))
        | ((with_reducible refine callK_intro (s1) (by with_unfolding_all rfl) ?_ ?_); (focus kernel_rfl))
        | ((with_reducible refine callI_spec (s1) (by with_unfolding_all rfl) ?_ ?_ ?_); (focus kernel_rfl); (focus kernel_rfl))
        | ((with_reducible refine callK_intro (s2) (by with_unfolding_all rfl) ?_ ?_); (focus kernel_rfl))
        | ((with_reducible refine callI_spec (s2) (by with_unfolding_all rfl) ?_ ?_ ?_); (focus kernel_rfl); (focus kernel_rfl))
        | ((with_reducible refine callK_intro (s3) (by with_unfolding_all rfl) ?_ ?_); (focus kernel_rfl))
        | ((with_reducible refine callI_spec (s3) (by with_unfolding_all rfl) ?_ ?_ ?_); (focus kernel_rfl); (focus kernel_rfl))
        | ((with_reducible refine callK_intro (s4) (by with_unfolding_all rfl) ?_ ?_); (focus kernel_rfl))
        | ((with_reducible refine callI_spec (s4) (by with_unfolding_all rfl) ?_ ?_ ?_); (focus kernel_rfl); (focus kernel_rfl))
        | ((with_reducible refine callK_intro (s5) (by with_unfolding_all rfl) ?_ ?_); (focus kernel_rfl))
        | ((with_reducible refine callI_spec (s5) (by with_unfolding_all rfl) ?_ ?_ ?_); (focus kernel_rfl); (focus kernel_rfl))
        | ((with_reducible refine callK_intro (s6) (by with_unfolding_all rfl) ?_ ?_); (focus kernel_rfl))
        | ((with_reducible refine callI_spec (s6) (by with_unfolding_all rfl) ?_ ?_ ?_); (focus kernel_rfl); (focus kernel_rfl))
        | ((with_reducible refine callK_intro (s7) (by with_unfolding_all rfl) ?_ ?_); (focus kernel_rfl))
        | ((with_reducible refine callI_spec (s7) (by with_unfolding_all rfl) ?_ ?_ ?_); (focus kernel_rfl); (focus kernel_rfl))
        | ((with_reducible refine callK_intro (s8) (by with_unfolding_all rfl) ?_ ?_); (focus kernel_rfl))
        | ((with_reducible refine callI_spec (s8) (by with_unfolding_all rfl) ?_ ?_ ?_); (focus kernel_rfl); (focus kernel_rfl))
        | ((with_reducible refine callK_intro (s9) (by with_unfolding_all rfl) ?_ ?_); (focus kernel_rfl))
        | ((with_reducible refine callI_spec (s9) (by with_unfolding_all rfl) ?_ ?_ ?_); (focus kernel_rfl); (focus kernel_rfl))
        | ((with_reducible refine callK_intro (s10) (by with_unfolding_all rfl) ?_ ?_); (focus kernel_rfl))
        | ((with_reducible refine callI_spec (s10) (by with_unfolding_all rfl) ?_ ?_ ?_); (focus kernel_rfl); (focus kernel_rfl))
        | ((with_reducible refine callK_intro (s11) (by with_unfolding_all rfl) ?_ ?_); (focus kernel_rfl))
        | ((with_reducible refine callI_spec (s11) (by with_unfolding_all rfl) ?_ ?_ ?_); (focus kernel_rfl); (focus kernel_rfl))
        | ((with_reducible refine callK_intro (s12) (by with_unfolding_all rfl) ?_ ?_); (focus kernel_rfl))
        | ((with_reducible refine callI_spec (s12) (by with_unfolding_all rfl) ?_ ?_ ?_); (focus kernel_rfl); (focus kernel_rfl))
        | ((with_reducible refine callK_intro (s13) (by with_unfolding_all rfl) ?_ ?_); (focus kernel_rfl))
        | ((with_reducible refine callI_spec (s13) (by with_unfolding_all rfl) ?_ ?_ ?_); (focus kernel_rfl); (focus kernel_rfl))
        | ((with_reducible refine callK_intro (e1) (by with_unfolding_all rfl) ?_ ?_); (focus kernel_rfl))
        | ((with_reducible refine callI_spec (e1) (by with_unfolding_all rfl) ?_ ?_ ?_); (focus kernel_rfl); (focus kernel_rfl))
        | ((with_reducible refine callK_intro (e2) (by with_unfolding_all rfl) ?_ ?_); (focus kernel_rfl))
        | ((with_reducible refine callI_spec (e2) (by with_unfolding_all rfl) ?_ ?_ ?_); (focus kernel_rfl); (focus kernel_rfl))
        | ((with_reducible refine callK_intro (e3) (by with_unfolding_all rfl) ?_ ?_); (focus kernel_rfl))
        | ((with_reducible refine callI_spec (e3) (by with_unfolding_all rfl) ?_ ?_ ?_); (focus kernel_rfl); (focus kernel_rfl))
        | ((with_reducible refine callK_intro (e4) (by with_unfolding_all rfl) ?_ ?_); (focus kernel_rfl))
        | ((with_reducible refine callI_spec (e4) (by with_unfolding_all rfl) ?_ ?_ ?_); (focus kernel_rfl); (focus kernel_rfl))
        | (with_reducible refine aw_label ?_)
        | ((with_reducible refine aw_rfM ?_ ?_); (focus kernel_rfl))
        | (with_reducible refine aw_skip ?_)
        | (with_reducible refine aw_exit ?_)
        | ((with_reducible refine aw_condM ?_ ?_); (focus kernel_rfl))
        | (with_reducible refine aw_ret ?_)
      ); simp only [↓rwp.eq_def, ↓sop.eq_def, ↓slotK.eq_def, inV, shT, unT, inQ, rfQ, rfEnd, resOf, pickT, setP, ydA, ydQ, rowW, vD, fillV,  ↓gop.eq_def, ↓hop.eq_def, ↓hopH.eq_def, ↓hwp.eq_def, ↓ldV.eq_def, ↓ldK.eq_def, ↓ixK.eq_def, ↓addOff.eq_def, ↓exK.eq_def, ↓notK.eq_def, ↓pickK.eq_def, ↓iop2.eq_def, ↓binK.eq_def, ↓eqop.eq_def, icells, ↓iop.eq_def, ↓cutK.eq_def, ↓lenK.eq_def, ↓lenM.eq_def, tyInt, ↓lookK.eq_def, ↓mpK.eq_def, keyV, allI, fitK, lkM, upM, dlM, kq, ↓cvK.eq_def, ↓mmK.eq_def, ↓biK.eq_def, ↓stK.eq_def, ↓apK.eq_def, ↓apD.eq_def, ↓apM.eq_def, isMo, ↓apS.eq_def, nxt, put, setT, setB, delB, lkT_n, lkT_c, lkB_n, lkB_c, ev, ofC, inT, ofA, ofRet, dV_n, dV_c, getD_enc, toDs_dV, List.head?_cons, List.length_map, Option.toArray_some, Option.toArray_none, Int.toNat_natCast, slOf, TyK.agg, vcells, splice, pickOps, headF, restF, allF, zOf, strip, stripP, gOf, allP, rowV, toDs, toD, toA, toAs, headOps, tailOps, isT, addN, Op.operands, Call.operands, List.map_cons, List.map_nil, List.drop_zero, List.drop_succ_cons, List.take_succ_cons, List.take_zero, List.length_cons, List.length_nil, List.getElem?_cons_zero, List.getElem?_cons_succ, List.getElem?_toArray, Option.bind_some, Option.map_some, Option.map_none, List.append_nil, List.nil_append, List.cons_append, if_true, if_false, reduceIte, Nat.reduceEqDiff, Nat.reduceAdd, Nat.reduceSub, Int.reduceToNat, Nat.reduceLeDiff, Nat.reduceLT, and_false, and_self, Nat.zero_add, Nat.add_zero, reduceCtorEq, Option.getD_some, Option.getD_none, Option.isSome_some, Option.isSome_none, forall_const, true_and, and_true, true_implies, Bool.true_and, Bool.false_and, Bool.and_true, Bool.and_false, Bool.true_or, Bool.false_or, Bool.or_true, Bool.or_false, beq_self_eq_true, zipM, zcells, Value.cells, Value.oneCell', List.toList_toArray, Array.toList_append, Bool.not_not, List.cons.injEq, Int.reduceEq, eq_self, false_and, Bool.not_true, Bool.not_false, ne_eq, not_false_eq_true, imp_self, implies_true, av_bt, av_bf, av_and, av_or, av_nf, av_tt, av_n1, av_n2, av_t1, av_tp, retQ, retL, resV, RetV, RetOk, SubL, entD_len, entD_take, entD_hd, entD_ln, entD_ic, entD_d1, entD_d2, entD_d3, entD_d4, entD_d5, entD_d6, entD_d7, ty_39, ty_3, ty_22, ty_4, List.getD_cons_zero, List.getD_cons_succ]; try simp (disch := omega) only [av_w, av_t1, av_tp, Int.toNat_natCast]))
  all_goals exact Sub.of_eq (congrArg aB (by decide))
end Go.Proofs.Ytfmefdeldgmhpaa


namespace Go.Proofs.Ytfmefdeldgmhpaa
set_option linter.unusedSimpArgs false
open Go.ChangeShapes Go.WideShapes Go.ChangeAt Go.RowKit
set_option linter.unusedVariables false

def Opens {α : Type} (P : Program) (t : TypeId) (R : RepT α) : Prop :=
  ∀ {H : Type} {enc : TypeId × Value → H} {W : World} {n : Nat} {cs : List Value} {x : DataW H × List MemPlace}, DataW.trod enc P W 0 (fun _ => true) true n t cs = some x → (∀ k ∈ x.1.weights P t, k ≤ reachBytes) → ∃ y : α, R (Now W) W y cs
section
variable {α β : Type} {P : Program} {t e : TypeId} {sz : Nat} {R : RepT α}
theorem opens_int {k : IntKind} (hu : P.underlying t = some (.int k)) : Opens P t (RI k) := fun h _ => by
  obtain ⟨n, e, _, hw⟩ := DataW.trod_int hu h
  exact ⟨n, e, hw⟩
theorem mapM_get {f : Nat → Option Value} : ∀ {l : List Nat} {cs : List Value}, l.mapM f = some cs → cs.length = l.length ∧ ∀ (j : Nat) (u : Value), cs[j]? = some u → ∃ i : Nat, l[j]? = some i ∧ f i = some u
  | [], cs, h => by
    simp at h
    subst h
    exact ⟨rfl, fun j u h => by simp at h⟩
  | i :: l, cs, h => by
    rw [List.mapM_cons] at h
    cases h1 : f i with
    | none => simp [h1] at h
    | some u =>
      cases h2 : l.mapM f with
      | none => simp [h1, h2] at h
      | some us =>
        simp [h1, h2] at h
        subst h
        obtain ⟨hl, hg⟩ := mapM_get h2
        refine ⟨by simp [hl], fun j v hv => ?_⟩
        cases j with
        | zero => simp at hv; subst hv; exact ⟨i, rfl, h1⟩
        | succ j => simpa using hg j v (by simpa using hv)
theorem cells_get {w : World} {a : Addr} {n : Nat} {cs : List Value} (h : w.cells? 0 a n = some cs) : cs.length = n ∧ ∀ (j : Nat) (u : Value), cs[j]? = some u → w.cell? (a.add j) = some u := by
  unfold World.cells? at h
  rw [if_pos (Nat.zero_le _)] at h
  obtain ⟨hl, hg⟩ := mapM_get h
  refine ⟨by simpa using hl, fun j u hu => ?_⟩
  obtain ⟨i, hi, hf⟩ := hg j u hu
  have : i = j := by
    have hj : j < n := by have := (List.getElem?_eq_some_iff.1 hu).1; rw [hl] at this; simpa using this
    rw [List.getElem?_range hj] at hi
    exact (Option.some.inj hi).symm
  rw [this] at hf
  exact hf
theorem weights_all {H : Type} {d : DataW H} {k : Nat} : ∀ {l : List (DataW H)}, d ∈ l → k ∈ d.weights P e → k ∈ DataW.weightsAll P e l
  | [], h, _ => by cases h
  | x :: l, h, hk => by
    simp only [DataW.weightsAll, List.mem_append]
    rcases List.mem_cons.1 h with rfl | h
    · exact .inl hk
    · exact .inr (weights_all h hk)
theorem pick_list {Q : Nat → α → Prop} : ∀ n, (∀ i, i < n → ∃ y, Q i y) → ∃ l : List α, l.length = n ∧ ∀ i (h : i < l.length), Q i l[i]
  | 0, _ => ⟨[], rfl, fun i h => by cases h⟩
  | n + 1, h => by
    obtain ⟨l, hl, hq⟩ := pick_list n (fun i hi => h i (by omega))
    obtain ⟨y, hy⟩ := h n (by omega)
    refine ⟨l ++ [y], by simp [hl], fun i hi => ?_⟩
    by_cases hi' : i < l.length
    · rw [List.getElem_append_left hi']; exact hq i hi'
    · have : i = l.length := by simp at hi; omega
      subst this
      simp [hl, hy]
theorem opens_slice (g : Good sz R) (ho : Opens P e R) (hu : P.underlying t = some (.slice e)) (hc : P.cellsOf e = sz) (hpos : 0 < sz) (hb : 1 ≤ P.bytesOf e) : Opens P t (RS sz R) := by
  intro H enc W n cs x h hw
  rcases DataW.trod_slice hu h with ⟨rfl, _⟩ | ⟨a, len, cap, elems, rest, m, rfl, rfl, rfl, _, hl, _, hlen, hel, _, _⟩
  · exact ⟨[], none, 0, rfl, Nat.le_refl _, by simp, RRow.nil _⟩
  · simp only [DataW.weights, hu] at hw
    have hsz := hw _ (List.mem_cons_self ..)
    rw [List.length_map, List.length_map] at hsz
    have hbig : elems.length ≤ 140737488351232 := by
      unfold reachBytes at hsz
      have := Nat.mul_le_mul_left (elems.length + rest.length) hb
      omega
    rw [hc] at hel
    by_cases hl0 : len = 0
    · subst hl0
      exact ⟨[], some a, cap, rfl, by simp, by simp, RRow.nil _⟩
    have hs : a.spot = none := by
      have h0 := hel 0 (by omega)
      rw [List.getElem?_eq_getElem (by omega)] at h0
      cases hcs : W.cells? 0 (a.add (0 * sz)) sz with
      | none => rw [hcs] at h0; cases h0
      | some cs =>
        obtain ⟨hl2, hg⟩ := cells_get hcs
        have h9 := World.cell?_spot (hg 0 cs[0] (by simp))
        simpa [Addr.add] using h9
    obtain ⟨b, off, spot⟩ := a
    subst hs
    have key : ∀ i, i < len → ∃ y : α, ∃ cs, Now W b ∧ R (Now W) W y cs ∧ ∀ j u, cs[j]? = some u → W.cell? ⟨b, off + i * sz + j, none⟩ = some u := by
      intro i hi
      have h0 := hel i hi
      have he : elems[i]? = some (elems[i]'(by omega)) := List.getElem?_eq_getElem (by omega)
      rw [he] at h0
      cases hcs : W.cells? 0 (Addr.add ⟨b, off, none⟩ (i * sz)) sz with
      | none => rw [hcs] at h0; cases h0
      | some cs =>
        rw [hcs, Option.bind_some] at h0
        obtain ⟨y, hy⟩ := ho h0 (fun k hk => hw k (by
          refine List.mem_cons_of_mem _ (List.mem_append.2 (.inl ?_))
          exact weights_all (List.mem_map.2 ⟨_, List.getElem_mem (by omega), rfl⟩) hk))
        obtain ⟨hl2, hg⟩ := cells_get hcs
        have hc0 := hg 0 cs[0] (by simp)
        refine ⟨y, cs, ?_, hy, fun j u hu => ?_⟩
        · have := World.block_lt_of_cell? _ _ hc0
          rw [add_plain, add_plain] at this
          exact this
        · have := hg j u hu
          rw [add_plain, add_plain] at this
          exact this
    obtain ⟨l, hll, hq⟩ := pick_list len key
    refine ⟨l, some ⟨b, off, none⟩, cap, by rw [hll], by rw [hll]; exact hl, by rw [hll, ← hlen]; exact hbig, fun i hi => ?_⟩
    obtain ⟨cs, h1, h2, h3⟩ := hq i hi
    exact ⟨b, off, cs, rfl, h1, h2, h3⟩

/-- a struct's fields from the one at offset o on -/
def OpensL {γ : Type} (P : Program) (l : List Field) (o : Nat) (T : RepT γ) : Prop :=
  ∀ {H : Type} {enc : TypeId × Value → H} {W : World} {n : Nat} {cs : List Value} {xs : List (DataW H × List MemPlace)}, xs.length = l.length → (cs.length + o = (l.map fun f => P.cellsOf f.type).foldl (· + ·) o) →
    (∀ (i : Nat) (f : Field), l[i]? = some f → o ≤ f.offset ∧ DataW.trod enc P W 0 (fun _ => true) true n f.type ((cs.drop (f.offset - o)).take (P.cellsOf f.type)) = xs[i]?) →
    (∀ (i : Nat) (f : Field) (x : DataW H × List MemPlace), l[i]? = some f → xs[i]? = some x → ∀ k ∈ x.1.weights P f.type, k ≤ reachBytes) → ∃ y : γ, T (Now W) W y cs
def RNil : RepT Unit := fun _ _ _ cs => cs = []
theorem opensL_nil {o : Nat} : OpensL P [] o RNil := fun hx hl _ _ => by
  simp at hl
  exact ⟨(), hl⟩
theorem foldl_add (l : List Nat) (o : Nat) : l.foldl (· + ·) o = o + l.foldl (· + ·) 0 := by
  induction l generalizing o with
  | nil => simp
  | cons x l ih => rw [List.foldl_cons, List.foldl_cons, ih (o + x), ih (0 + x)]; omega
theorem opensL_cons {f : Field} {l : List Field} {o s1 : Nat} {S : RepT β} (g : Good s1 R) (ho : Opens P f.type R) (hs : P.cellsOf f.type = s1) (hof : f.offset = o) (hall : ∀ f' ∈ l, o + s1 ≤ f'.offset) (hl : OpensL P l (o + s1) S) : OpensL P (f :: l) o (RP R S) := by
  intro H enc W n cs xs hx hlen hel hw
  rw [List.map_cons, List.foldl_cons, foldl_add, hs] at hlen
  match xs, hx with
  | x :: xs, hx =>
    have h0 := (hel 0 f rfl).2
    rw [hof, Nat.sub_self, List.drop_zero, hs] at h0
    obtain ⟨y, hy⟩ := ho h0 (hw 0 f x rfl rfl)
    obtain ⟨z, hz⟩ := hl (cs := cs.drop s1) (xs := xs) (n := n) (enc := enc) (by simpa using hx) (by rw [List.length_drop, foldl_add]; omega) (fun i f' hf => by
      have h1 := hel (i + 1) f' (by simpa using hf)
      have h2 := hall f' (List.mem_of_getElem? hf)
      refine ⟨h2, ?_⟩
      have h3 := h1.2
      rw [List.drop_drop, show s1 + (f'.offset - (o + s1)) = f'.offset - o by omega]
      simpa using h3) (fun i f' x' hf hx' => hw (i + 1) f' x' (by simpa using hf) (by simpa using hx'))
    exact ⟨(y, z), cs.take s1, cs.drop s1, (List.take_append_drop ..).symm, hy, hz⟩
theorem opens_struct {fs : Array Field} {γ : Type} {T : RepT γ} (hu : P.underlying t = some (.struct fs)) (hc : P.cellsOf t = (fs.toList.map fun f => P.cellsOf f.type).foldl (· + ·) 0) (hT : OpensL P fs.toList 0 T) : Opens P t T := by
  intro H enc W n cs x h hw
  obtain ⟨xs, m, rfl, rfl, hl, hlen, hf⟩ := DataW.trod_struct hu h
  refine hT (xs := xs) (n := m) (enc := enc) (by simpa using hlen) (by rw [hl, hc]; rfl) (fun i f hi => ⟨Nat.zero_le _, by simpa using hf i f (by simpa using hi)⟩) (fun i f x hi hx k hk => hw k ?_)
  simp only [DataW.weights, hu]
  exact DataW.weights_mem_each (by rw [List.getElem?_map, hi]; rfl) (by rw [List.getElem?_map, hx]; rfl) k hk
theorem opens_map {γ : Type} {T : RepT γ} {f : α → γ} (h : Opens P t R) (hm : ∀ {F w x cs}, R F w x cs → T F w (f x) cs) : Opens P t T := fun h1 h2 => by
  obtain ⟨y, hy⟩ := h h1 h2
  exact ⟨f y, hm hy⟩
theorem sized {H : Type} {ts : List TypeId} {ds : List (DataW H)} (h : (DataW.weightsEach P ts ds).all (· ≤ reachBytes) = true) {j : Nat} {t : TypeId} {d : DataW H} (ht : ts[j]? = some t) (hd : ds[j]? = some d) : ∀ k ∈ d.weights P t, k ≤ reachBytes := fun k hk => by
  have := List.all_eq_true.1 h _ (DataW.weights_mem_each ht hd k hk)
  simpa using this
section
variable {H : Type} {enc : TypeId × Value → H} {W : World} {base : Nat} {v : Value} {d : DataW H} {ps : List MemPlace}
end
end
end Go.Proofs.Ytfmefdeldgmhpaa


namespace Go.Proofs.Ytfmefdeldgmhpaa
set_option linter.unusedSimpArgs false
open Go.ChangeShapes Go.WideShapes Go.ChangeAt Go.RowKit
set_option linter.unusedVariables false
abbrev ftB (F : Nat → Prop) : Ft := ⟨fun b _ => F b, F⟩
/-- a datum by its data -/
def RE {α : Type} (enc : α → List D) (ok : α → Prop) : RepT α := fun F w x cs => ok x ∧ RDL (ftB F) w (enc x) cs ∧ ∀ u ∈ cs, u.oneCell' = true
section
variable {α β : Type} {P : Program} {t e : TypeId} {sz : Nat} {enc : α → List D} {ok : α → Prop} {enc2 : β → List D} {ok2 : β → Prop} {F : Nat → Prop} {w : World}
theorem good_re (hl : ∀ x, (enc x).length = sz) : Good sz (RE enc ok) :=
  ⟨fun {F F' w w'} hF hk {x cs} h => ⟨h.1, RDL.mono (F := ftB F) (G := ftB F') ⟨fun b o hb => hF b hb, fun b hb => hF b hb⟩ (Kp.of_blocks (F := ftB F) (fun x o hx => hk x hx) (fun x hx => hk x hx)) _ _ h.2.1, h.2.2⟩,
   fun {F w x cs} h => by rw [RDL.len h.2.1, hl], fun {F w x cs} h => h.2.2⟩
theorem ore_int {k : IntKind} (hu : P.underlying t = some (.int k)) : Opens P t (RE (fun n : Int => [.c (.int k n)]) (fun n => (Lit.int k n).wf = true)) :=
  opens_map (f := fun n : Int => n) (opens_int hu) fun {F w x cs} h => ⟨h.2, by rw [h.1]; exact ⟨_, _, rfl, rfl, rfl⟩, by rw [h.1]; simp [Value.oneCell']⟩
theorem rep_re {p : α × β} {cs : List Value} (h : RP (RE enc ok) (RE enc2 ok2) F w p cs) : RE (fun p : α × β => enc p.1 ++ enc2 p.2) (fun p => ok p.1 ∧ ok2 p.2) F w p cs := by
  obtain ⟨c1, c2, rfl, h1, h2⟩ := h
  refine ⟨⟨h1.1, h2.1⟩, RDL.append h1.2.1 h2.2.1, fun u hu => ?_⟩
  rcases List.mem_append.1 hu with hu | hu
  · exact h1.2.2 u hu
  · exact h2.2.2 u hu
theorem opensL_map {γ δ : Type} {l : List Field} {o : Nat} {T : RepT γ} {U : RepT δ} {f : γ → δ} (h : OpensL P l o T) (hm : ∀ {F w x cs}, T F w x cs → U F w (f x) cs) : OpensL P l o U := fun h1 h2 h3 h4 => by
  obtain ⟨y, hy⟩ := h h1 h2 h3 h4
  exact ⟨f y, hm hy⟩
theorem oreL_nil {o : Nat} : OpensL P [] o (RE (fun _ : Unit => []) (fun _ => True)) :=
  opensL_map (f := fun u : Unit => u) opensL_nil fun {F w x cs} h => ⟨trivial, h, by rw [h]; simp⟩
theorem oreL_cons {f : Field} {l : List Field} {o s1 : Nat} (hl1 : ∀ x, (enc x).length = s1) (ho : Opens P f.type (RE enc ok)) (hs : P.cellsOf f.type = s1) (hof : f.offset = o) (hall : ∀ f' ∈ l, o + s1 ≤ f'.offset) (hl : OpensL P l (o + s1) (RE enc2 ok2)) :
    OpensL P (f :: l) o (RE (fun p : α × β => enc p.1 ++ enc2 p.2) (fun p => ok p.1 ∧ ok2 p.2)) :=
  opensL_map (f := fun p : α × β => p) (opensL_cons (good_re hl1) ho hs hof hall hl) fun {F w x cs} h => rep_re h
/-- a field of one cell -/
theorem oreL_1 {f : Field} {l : List Field} {o : Nat} (ho : Opens P f.type (RE enc ok)) (hl1 : ∀ x, (enc x).length = 1) (hs : P.cellsOf f.type = 1) (hof : f.offset = o) (hall : ∀ f' ∈ l, o + 1 ≤ f'.offset) (hl : OpensL P l (o + 1) (RE enc2 ok2)) :
    OpensL P (f :: l) o (RE (fun p : α × β => enc p.1 ++ enc2 p.2) (fun p => ok p.1 ∧ ok2 p.2)) := oreL_cons hl1 ho hs hof hall hl
theorem ore_map {f : α → β} (h : Opens P t (RE enc ok)) (he : ∀ x, enc2 (f x) = enc x) (hok : ∀ x, ok x → ok2 (f x)) : Opens P t (RE enc2 ok2) :=
  opens_map (f := f) h fun {F w x cs} h => ⟨hok _ h.1, by rw [he]; exact h.2.1, h.2.2⟩
theorem rr_of {l : List α} {a : Option Addr} (hl : ∀ x, (enc x).length = sz) (h : RRow sz (RE enc ok) F w l a) : RR (ftB F) w sz a (l.map enc) 0 ∧ ∀ x ∈ l, ok x := by
  have key : ∀ (m : List α) (n : Nat), (∀ i (hi : i < m.length), ∃ b off cs, a = some ⟨b, off, none⟩ ∧ F b ∧ RE enc ok F w m[i] cs ∧ ∀ j u, cs[j]? = some u → w.cell? ⟨b, off + (n + i) * sz + j, none⟩ = some u) → RR (ftB F) w sz a (m.map enc) (n * sz) ∧ ∀ x ∈ m, ok x := by
    intro m
    induction m with
    | nil => intro n _; exact ⟨trivial, by simp⟩
    | cons x m ih =>
      intro n h
      obtain ⟨b, off, cs, h1, h2, h3, h4⟩ := h 0 (by simp)
      have h3' : RE enc ok F w x cs := h3
      obtain ⟨k1, k2⟩ := ih (n + 1) (fun i hi => by
        obtain ⟨b', off', cs', g1, g2, g3, g4⟩ := h (i + 1) (by simpa using hi)
        exact ⟨b', off', cs', g1, g2, g3, fun j u hj => by have := g4 j u hj; rw [show n + 1 + i = n + (i + 1) by omega]; exact this⟩)
      refine ⟨⟨⟨b, off, cs, h1, h3'.2.1, by rw [RDL.len h3'.2.1, hl], h3'.2.2, fun j u hj => ⟨h2, ?_⟩⟩, ?_⟩, ?_⟩
      · have := h4 j u hj
        simpa using this
      · rw [Nat.add_mul, Nat.one_mul] at k1
        exact k1
      · intro y hy
        rcases List.mem_cons.1 hy with rfl | hy
        · exact h3'.1
        · exact k2 y hy
  have := key l 0 (fun i hi => by
    obtain ⟨b, off, cs, h1, h2, h3, h4⟩ := h i hi
    exact ⟨b, off, cs, h1, h2, h3, fun j u hj => by rw [Nat.zero_add]; exact h4 j u hj⟩)
  simpa using this
theorem ore_slice (d0 : List D) (hl : ∀ x, (enc x).length = sz) (ho : Opens P e (RE enc ok)) (hu : P.underlying t = some (.slice e)) (hc : P.cellsOf e = sz) (hpos : 0 < sz) (hb : 1 ≤ P.bytesOf e) :
    Opens P t (RE (fun l : List α => [.sl sz d0 (l.map enc)]) (fun l => l.length ≤ 140737488351232 ∧ ∀ x ∈ l, ok x)) :=
  opens_map (f := fun l : List α => l) (opens_slice (good_re hl) ho hu hc hpos hb) fun {F w x cs} h => by
    obtain ⟨a, cap, rfl, h1, h2, h3⟩ := h
    obtain ⟨k1, k2⟩ := rr_of hl h3
    refine ⟨⟨h2, k2⟩, ⟨_, _, rfl, ⟨a, cap, by rw [List.length_map], by simpa using h1, by simpa using h2, k1⟩, rfl⟩, by simp [Value.oneCell']⟩
/-- as a law's arguments -/
abbrev ftN (w : World) : Ft := ftB (Now w)
theorem ftN_lt (w : World) : (ftN w).lt w := ⟨fun _ _ h => h, fun _ h => h⟩
variable {H : Type} {en : TypeId × Value → H} {W : World} {base : Nat} {v : Value} {d : DataW H} {ps : List MemPlace}
theorem arg_row {dd0 : List D} {ok' : List α → Prop} (ho : Opens P t (RE (fun l : List α => [.sl sz dd0 (l.map enc)]) ok')) (hu : P.underlying t = some (.slice e)) (hok : Value.okWide P W .any base t v) (h : DataW.Trod en P W 0 (fun _ => true) true t v d ps) (hw : ∀ k ∈ d.weights P t, k ≤ reachBytes) :
    ∃ l, ok' l ∧ RA (ftN W) W (.one (.sl sz dd0 (l.map enc))) v := by
  obtain ⟨a0, len, cp, rfl⟩ := okWide_slice hu hok
  obtain ⟨fuel, hf⟩ := h
  obtain ⟨l, h1, h2, h3⟩ := ho hf hw
  obtain ⟨u, r, e1, h4, h5⟩ := h2
  simp [Value.cells] at e1
  exact ⟨l, h1, by rw [e1.1]; exact h4⟩
end
end Go.Proofs.Ytfmefdeldgmhpaa


namespace Go.Proofs.Ytfmefdeldgmhpaa
set_option linter.unusedSimpArgs false
set_option linter.unusedVariables false
open Go.ChangeShapes Go.WideShapes Go.ChangeAt Go.RowKit
structure OkE (x : Ent) : Prop where
  no : i64 x.no
  kind : i64 x.kind
  a : i64 x.a
  b : i64 x.b
  frm : i64 x.frm
  til : i64 x.til
  known : i64 x.known
  gone : i64 x.gone
theorem opens_ent : Opens Try.prog 39 (RE entD OkE) :=
  ore_map (f := fun x : Int × Int × Int × Int × Int × Int × Int × Int × Unit => (⟨x.1, x.2.1, x.2.2.1, x.2.2.2.1, x.2.2.2.2.1, x.2.2.2.2.2.1, x.2.2.2.2.2.2.1, x.2.2.2.2.2.2.2.1⟩ : Ent))
    (opens_struct Try.underlying39 (by kernel_rfl)
      (oreL_1 (ore_int Try.underlying3) (by intro x; rfl) (by kernel_rfl) rfl (by simp) (oreL_1 (ore_int Try.underlying3) (by intro x; rfl) (by kernel_rfl) rfl (by simp)
      (oreL_1 (ore_int Try.underlying3) (by intro x; rfl) (by kernel_rfl) rfl (by simp) (oreL_1 (ore_int Try.underlying3) (by intro x; rfl) (by kernel_rfl) rfl (by simp)
      (oreL_1 (ore_int Try.underlying3) (by intro x; rfl) (by kernel_rfl) rfl (by simp) (oreL_1 (ore_int Try.underlying3) (by intro x; rfl) (by kernel_rfl) rfl (by simp)
      (oreL_1 (ore_int Try.underlying3) (by intro x; rfl) (by kernel_rfl) rfl (by simp) (oreL_1 (ore_int Try.underlying3) (by intro x; rfl) (by kernel_rfl) rfl (by simp) oreL_nil)))))))))
    (by intro x; rfl) (by rintro x ⟨h1, h2, h3, h4, h5, h6, h7, h8, _⟩; exact ⟨wf_i64 h1, wf_i64 h2, wf_i64 h3, wf_i64 h4, wf_i64 h5, wf_i64 h6, wf_i64 h7, wf_i64 h8⟩)
theorem opens_ents : Opens Try.prog 22 (RE (fun l : List Ent => [.sl 8 (entD default) (l.map entD)]) (fun l => l.length ≤ 140737488351232 ∧ ∀ x ∈ l, OkE x)) :=
  ore_slice (sz := 8) (entD default) (by intro x; rfl) opens_ent Try.underlying22 (by kernel_rfl) (by decide) (Nat.le_of_ble_eq_true (by kernel_rfl))
theorem okE_kind {l : List Ent} (h : ∀ x ∈ l, OkE x) : ∀ k, i64 (l.getD k default).kind := kindsAt fun x hx => (h x hx).kind
end Go.Proofs.Ytfmefdeldgmhpaa


namespace Go.Proofs.Ytfmefdeldgmhpaa
set_option linter.unusedSimpArgs false
set_option linter.unusedVariables false
open Go.RowKit
def foldE : List Ent → List Ent → Option (List Ent)
  | acc, [] => some acc
  | acc, x :: l => if errA acc x = 0 then foldE (addL acc x) l else none
theorem errA_zero {l : List Ent} {x : Ent} : errA l x = 0 ↔ checkL l = 0 ∧ validE x = true ∧ (∀ y ∈ l, y.no ≠ x.no) ∧ l.length ≠ 1024 := by
  unfold errA
  constructor
  · intro h
    split at h
    · rename_i h1; exact absurd h h1
    · rename_i h1
      split at h
      · cases h
      · rename_i h2
        split at h
        · cases h
        · rename_i h3
          split at h
          · cases h
          · rename_i h4
            refine ⟨by simpa using h1, by simpa using h2, fun y hy e => h3 ?_, h4⟩
            exact List.any_eq_true.2 ⟨y, hy, by simpa using e⟩
  · rintro ⟨h1, h2, h3, h4⟩
    rw [if_neg (by simpa using h1), if_neg (by simp [h2]), if_neg, if_neg h4]
    intro h
    obtain ⟨y, hy, e⟩ := List.any_eq_true.1 h
    exact h3 y hy (by simpa using e)
theorem addP_perm (l : List Ent) (x : Ent) : (addP l x).Perm (x :: l) := by
  unfold addP
  rw [List.append_assoc, List.singleton_append]
  exact List.perm_middle.trans ((List.filter_append_perm _ l).cons x)
theorem add_ok {l : List Ent} {x : Ent} (h : errA l x = 0) : checkL (addL l x) = 0 ∧ (addL l x).Perm (x :: l) := by
  rw [addL, if_pos h]
  obtain ⟨h1, h2, h3, h4⟩ := errA_zero.1 h
  obtain ⟨c1, c2, c3⟩ := checkL_ok h1
  have hp := addP_perm l x
  refine ⟨checkL_of ?_ ?_ fun y hy => ?_, hp⟩
  · rw [hp.length_eq, List.length_cons]; omega
  · unfold addP
    rw [List.append_assoc, List.singleton_append, List.pairwise_append, List.pairwise_cons]
    refine ⟨c2.sublist List.filter_sublist, ⟨fun y hy => ?_, c2.sublist List.filter_sublist⟩, fun y hy z hz => ?_⟩
    · obtain ⟨q1, q2⟩ := List.mem_filter.1 hy
      have := h3 y q1
      simp only [Bool.not_eq_true', decide_eq_false_iff_not] at q2
      omega
    · obtain ⟨q1, q2⟩ := List.mem_filter.1 hy
      simp only [decide_eq_true_eq] at q2
      rcases List.mem_cons.1 hz with rfl | hz
      · exact q2
      · obtain ⟨q3, q4⟩ := List.mem_filter.1 hz
        simp only [Bool.not_eq_true', decide_eq_false_iff_not] at q4
        omega
  · rcases List.mem_cons.1 (hp.mem_iff.1 hy) with rfl | hy
    · exact h2
    · exact c3 y hy
theorem foldE_res : ∀ {l acc r : List Ent}, checkL acc = 0 → foldE acc l = some r → checkL r = 0 ∧ r.Perm (l ++ acc)
  | [], acc, r, hc, h => by
    rw [foldE, Option.some.injEq] at h
    subst h
    exact ⟨hc, List.Perm.refl _⟩
  | x :: l, acc, r, hc, h => by
    rw [foldE] at h
    split at h
    · rename_i he
      obtain ⟨h1, h2⟩ := add_ok he
      obtain ⟨h3, h4⟩ := foldE_res h1 h
      exact ⟨h3, h4.trans ((h2.append_left l).trans List.perm_middle)⟩
    · cases h
theorem foldE_some : ∀ {l acc : List Ent}, checkL acc = 0 → acc.length + l.length ≤ 1024 → ((foldE acc l).isSome = true ↔ (∀ x ∈ l, validE x = true) ∧ ((l ++ acc).map (·.no)).Nodup)
  | [], acc, hc, _ => by
    obtain ⟨c1, c2, c3⟩ := checkL_ok hc
    rw [foldE]
    refine ⟨fun _ => ⟨fun x hx => (by cases hx), ?_⟩, fun _ => rfl⟩
    rw [List.nil_append, List.Nodup, List.pairwise_map]
    exact c2.imp fun h => by omega
  | x :: l, acc, hc, hl => by
    rw [List.length_cons] at hl
    rw [foldE]
    by_cases he : errA acc x = 0
    · obtain ⟨h1, h2⟩ := add_ok he
      have hlen := h2.length_eq
      rw [List.length_cons] at hlen
      rw [if_pos he, foldE_some h1 (by omega)]
      have hp : ((l ++ addL acc x).map (·.no)).Perm ((x :: l ++ acc).map (·.no)) := ((h2.append_left l).trans List.perm_middle).map _
      rw [hp.nodup_iff]
      exact and_congr_left fun _ => ⟨fun h y hy => by
        rcases List.mem_cons.1 hy with rfl | hy
        · exact (errA_zero.1 he).2.1
        · exact h y hy, fun h y hy => h y (List.mem_cons_of_mem _ hy)⟩
    · rw [if_neg he]
      refine ⟨fun h => (by cases h), fun ⟨h1, h2⟩ => (he (errA_zero.2 ⟨hc, h1 x (by simp), fun y hy e => ?_, by omega⟩)).elim⟩
      rw [List.cons_append, List.map_cons, List.nodup_cons] at h2
      exact h2.1 (List.mem_map.2 ⟨y, List.mem_append_right _ hy, e⟩)
theorem check_nil : checkL [] = 0 := rfl
theorem foldE_turn {l m : List Ent} (hp : m.Perm l) (hl : l.length ≤ 1024) : foldE [] m = foldE [] l := by
  have h1 := foldE_some check_nil (l := l) (by simpa using hl)
  have h2 := foldE_some check_nil (l := m) (by simpa [hp.length_eq] using hl)
  have hs : (foldE [] m).isSome = (foldE [] l).isSome := by
    rw [Bool.eq_iff_iff, h1, h2, List.append_nil, List.append_nil, (hp.map _).nodup_iff]
    exact and_congr_left fun _ => ⟨fun h x hx => h x (hp.mem_iff.2 hx), fun h x hx => h x (hp.mem_iff.1 hx)⟩
  cases hm : foldE [] m with
  | none =>
    cases hl' : foldE [] l with
    | none => rfl
    | some b => rw [hm, hl'] at hs; cases hs
  | some a =>
    cases hl' : foldE [] l with
    | none => rw [hm, hl'] at hs; cases hs
    | some b =>
      obtain ⟨a1, a2⟩ := foldE_res check_nil hm
      obtain ⟨b1, b2⟩ := foldE_res check_nil hl'
      rw [List.append_nil] at a2 b2
      rw [List.Perm.eq_of_pairwise (fun x y _ _ h1 h2 => by have : x.no < y.no := h1; have : y.no < x.no := h2; omega) (checkL_ok a1).2.1 (checkL_ok b1).2.1 (a2.trans (hp.trans b2.symm))]
/-- two of a list's changed places -/
def swapE (l : List Ent) (i k : Nat) : List Ent := (l.set i (l.getD k default)).set k (l.getD i default)
theorem swapE_perm {l : List Ent} {i k : Nat} (hi : i < l.length) (hk : k < l.length) : (swapE l i k).Perm l := by
  unfold swapE
  have e1 : l.getD k default = l[k] := by simp [List.getD, hk]
  have e2 : l.getD i default = l[i] := by simp [List.getD, hi]
  rw [e1, e2]
  exact List.set_set_perm hi hk
end Go.Proofs.Ytfmefdeldgmhpaa


namespace Go.Proofs.Ytfmefdeldgmhpaa
set_option linter.unusedVariables false
set_option linter.unusedSimpArgs false
set_option linter.defProp false
open Go.RowKit
def avP := And.intro (And.intro (And.intro (And.intro (@rwp.eq_def) (And.intro (@sop.eq_def) (@slotK.eq_def))) (And.intro (And.intro (@gop.eq_def) (@hop.eq_def)) (And.intro (@hopH.eq_def) (@hwp.eq_def)))) (And.intro (And.intro (And.intro (@ldV.eq_def) (@ldK.eq_def)) (And.intro (@ixK.eq_def) (@addOff.eq_def))) (And.intro (And.intro (@exK.eq_def) (@notK.eq_def)) (And.intro (@pickK.eq_def) (@iop2.eq_def))))) (And.intro (And.intro (And.intro (@binK.eq_def) (And.intro (@eqop.eq_def) (@iop.eq_def))) (And.intro (And.intro (@cutK.eq_def) (@lenK.eq_def)) (And.intro (@lenM.eq_def) (@lookK.eq_def)))) (And.intro (And.intro (And.intro (@mpK.eq_def) (@cvK.eq_def)) (And.intro (@mmK.eq_def) (@biK.eq_def))) (And.intro (And.intro (@stK.eq_def) (@apK.eq_def)) (And.intro (And.intro (@apD.eq_def) (@apM.eq_def)) (And.intro (@apS.eq_def) (And.intro (@isMo.eq_1) (@isMo.eq_2)))))))
def avQ := And.intro (And.intro (And.intro (And.intro (And.intro (And.intro (And.intro (And.intro (@inV.eq_1) (@inV.eq_2)) (And.intro (@shT.eq_1) (@shT.eq_2))) (And.intro (And.intro (@unT.eq_1) (@unT.eq_2)) (And.intro (@inQ.eq_1) (@inQ.eq_2)))) (And.intro (And.intro (And.intro (@inQ.eq_3) (@rfQ.eq_1)) (And.intro (@rfQ.eq_2) (@rfQ.eq_3))) (And.intro (And.intro (@rfEnd.eq_1) (@rfEnd.eq_2)) (And.intro (@rfEnd.eq_3) (@rfEnd.eq_4))))) (And.intro (And.intro (And.intro (And.intro (@resOf.eq_1) (@resOf.eq_2)) (And.intro (@pickT.eq_1) (@pickT.eq_2))) (And.intro (And.intro (@setP.eq_1) (@setP.eq_2)) (And.intro (@ydA.eq_1) (@ydA.eq_2)))) (And.intro (And.intro (And.intro (@ydQ.eq_1) (@rowW.eq_1)) (And.intro (@rowW.eq_2) (@vD.eq_1))) (And.intro (And.intro (@vD.eq_2) (@fillV.eq_1)) (And.intro (@fillV.eq_2) (@icells.eq_1)))))) (And.intro (And.intro (And.intro (And.intro (And.intro (@icells.eq_2) (@icells.eq_3)) (And.intro (@tyInt.eq_1) (@keyV.eq_1))) (And.intro (And.intro (@keyV.eq_2) (@keyV.eq_3)) (And.intro (@keyV.eq_4) (@allI.eq_1)))) (And.intro (And.intro (And.intro (@allI.eq_2) (@fitK.eq_1)) (And.intro (@fitK.eq_2) (@fitK.eq_3))) (And.intro (And.intro (@lkM.eq_1) (@lkM.eq_2)) (And.intro (@upM.eq_1) (@upM.eq_2))))) (And.intro (And.intro (And.intro (And.intro (@dlM.eq_1) (@dlM.eq_2)) (And.intro (@kq.eq_1) (@kq.eq_2))) (And.intro (And.intro (@kq.eq_3) (@kq.eq_4)) (And.intro (@kq.eq_5) (@nxt.eq_1)))) (And.intro (And.intro (And.intro (@nxt.eq_2) (@put.eq_1)) (And.intro (@put.eq_2) (@setT.eq_1))) (And.intro (And.intro (@setT.eq_2) (@setB.eq_1)) (And.intro (@setB.eq_2) (And.intro (@delB.eq_1) (@delB.eq_2)))))))) (And.intro (And.intro (And.intro (And.intro (And.intro (And.intro (@lkT_n) (@lkT_c)) (And.intro (@lkB_n) (@lkB_c))) (And.intro (And.intro (@ev.eq_1) (@ev.eq_2)) (And.intro (@ev.eq_3) (@ev.eq_4)))) (And.intro (And.intro (And.intro (@ofC.eq_1) (@ofC.eq_2)) (And.intro (@inT.eq_1) (@inT.eq_2))) (And.intro (And.intro (@ofA.eq_1) (@ofA.eq_2)) (And.intro (@ofRet.eq_1) (@ofRet.eq_2))))) (And.intro (And.intro (And.intro (And.intro (@dV_n) (@dV_c)) (And.intro (@getD_enc) (@toDs_dV))) (And.intro (And.intro (@List.head?_cons.{0}) (@List.length_map.{0,0})) (And.intro (@Option.toArray_some.{0}) (@Option.toArray_none.{0})))) (And.intro (And.intro (And.intro (@Int.toNat_natCast) (@slOf.eq_1)) (And.intro (@slOf.eq_2) (@slOf.eq_3))) (And.intro (And.intro (@TyK.agg.eq_1) (@TyK.agg.eq_2)) (And.intro (@TyK.agg.eq_3) (@vcells.eq_1)))))) (And.intro (And.intro (And.intro (And.intro (And.intro (@vcells.eq_2) (@vcells.eq_3)) (And.intro (@vcells.eq_4) (@vcells.eq_5))) (And.intro (And.intro (@vcells.eq_6) (@vcells.eq_7)) (And.intro (@vcells.eq_8) (@vcells.eq_9)))) (And.intro (And.intro (And.intro (@vcells.eq_10) (@vcells.eq_11)) (And.intro (@vcells.eq_12) (@vcells.eq_13))) (And.intro (And.intro (@vcells.eq_14) (@vcells.eq_15)) (And.intro (@vcells.eq_16) (@splice.eq_1))))) (And.intro (And.intro (And.intro (And.intro (@pickOps.eq_1) (@pickOps.eq_2)) (And.intro (@headF.eq_1) (@headF.eq_2))) (And.intro (And.intro (@restF.eq_1) (@restF.eq_2)) (And.intro (@allF.eq_1) (@allF.eq_2)))) (And.intro (And.intro (And.intro (@zOf.eq_1) (@strip.eq_1)) (And.intro (@strip.eq_2) (@stripP.eq_1))) (And.intro (And.intro (@stripP.eq_2) (@gOf.eq_1)) (And.intro (@allP.eq_1) (And.intro (@allP.eq_2) (@rowV.eq_1))))))))) (And.intro (And.intro (And.intro (And.intro (And.intro (And.intro (And.intro (@rowV.eq_2) (@toDs.eq_1)) (And.intro (@toDs.eq_2) (@toD.eq_1))) (And.intro (And.intro (@toD.eq_2) (@toD.eq_3)) (And.intro (@toA.eq_1) (@toA.eq_2)))) (And.intro (And.intro (And.intro (@toAs.eq_1) (@toAs.eq_2)) (And.intro (@headOps.eq_1) (@headOps.eq_2))) (And.intro (And.intro (@tailOps.eq_1) (@tailOps.eq_2)) (And.intro (@isT.eq_1) (@isT.eq_2))))) (And.intro (And.intro (And.intro (And.intro (@isT.eq_3) (@isT.eq_4)) (And.intro (@isT.eq_5) (@isT.eq_6))) (And.intro (And.intro (@isT.eq_7) (@addN.eq_1)) (And.intro (@addN.eq_2) (@Go.Op.operands.eq_1)))) (And.intro (And.intro (And.intro (@Go.Op.operands.eq_2) (@Go.Op.operands.eq_3)) (And.intro (@Go.Op.operands.eq_4) (@Go.Op.operands.eq_5))) (And.intro (And.intro (@Go.Op.operands.eq_6) (@Go.Op.operands.eq_7)) (And.intro (@Go.Op.operands.eq_8) (@Go.Op.operands.eq_9)))))) (And.intro (And.intro (And.intro (And.intro (And.intro (@Go.Op.operands.eq_10) (@Go.Op.operands.eq_11)) (And.intro (@Go.Op.operands.eq_12) (@Go.Op.operands.eq_13))) (And.intro (And.intro (@Go.Op.operands.eq_14) (@Go.Op.operands.eq_15)) (And.intro (@Go.Op.operands.eq_16) (@Go.Op.operands.eq_17)))) (And.intro (And.intro (And.intro (@Go.Op.operands.eq_18) (@Go.Op.operands.eq_19)) (And.intro (@Go.Op.operands.eq_20) (@Go.Op.operands.eq_21))) (And.intro (And.intro (@Go.Op.operands.eq_22) (@Go.Op.operands.eq_23)) (And.intro (@Go.Op.operands.eq_24) (@Go.Op.operands.eq_25))))) (And.intro (And.intro (And.intro (And.intro (@Go.Op.operands.eq_26) (@Go.Op.operands.eq_27)) (And.intro (@Go.Op.operands.eq_28) (@Go.Op.operands.eq_29))) (And.intro (And.intro (@Go.Op.operands.eq_30) (@Go.Op.operands.eq_31)) (And.intro (@Go.Op.operands.eq_32) (@Go.Op.operands.eq_33)))) (And.intro (And.intro (And.intro (@Go.Op.operands.eq_34) (@Go.Op.operands.eq_35)) (And.intro (@Go.Op.operands.eq_36) (@Go.Op.operands.eq_37))) (And.intro (And.intro (@Go.Op.operands.eq_38) (@Go.Op.operands.eq_39)) (And.intro (@Go.Op.operands.eq_40) (And.intro (@Go.Op.operands.eq_41) (@Go.Op.operands.eq_42)))))))) (And.intro (And.intro (And.intro (And.intro (And.intro (And.intro (@Go.Op.operands.eq_43) (@Go.Call.operands.eq_1)) (And.intro (@List.map_cons.{0,0}) (@List.map_nil.{0,0}))) (And.intro (And.intro (@List.drop_zero.{0}) (@List.drop_succ_cons.{0})) (And.intro (@List.take_succ_cons.{0}) (@List.take_zero.{0})))) (And.intro (And.intro (And.intro (@List.length_cons.{0}) (@List.length_nil.{0})) (And.intro (@List.getElem?_cons_zero.{0}) (@List.getElem?_cons_succ.{0}))) (And.intro (And.intro (@List.getElem?_toArray.{0}) (@Option.bind_some.{0,0})) (And.intro (@Option.map_some.{0,0}) (@Option.map_none.{0,0}))))) (And.intro (And.intro (And.intro (And.intro (@List.append_nil.{0}) (@List.nil_append.{0})) (And.intro (@List.cons_append.{0}) (@and_false))) (And.intro (And.intro (@and_self) (@Nat.zero_add)) (And.intro (@Nat.add_zero) (@Option.getD_some.{0})))) (And.intro (And.intro (And.intro (@Option.getD_none.{0}) (@Option.isSome_some.{0})) (And.intro (@Option.isSome_none.{0}) (@true_and))) (And.intro (And.intro (@and_true) (@true_implies)) (And.intro (@Bool.true_and) (@Bool.false_and)))))) (And.intro (And.intro (And.intro (And.intro (And.intro (@Bool.and_true) (@Bool.and_false)) (And.intro (@Bool.true_or) (@Bool.false_or))) (And.intro (And.intro (@Bool.or_true) (@Bool.or_false)) (And.intro (@zipM.eq_1) (@zipM.eq_2)))) (And.intro (And.intro (And.intro (@zcells.eq_1) (@Go.Value.cells.eq_1)) (And.intro (@Go.Value.cells.eq_2) (@Go.Value.oneCell'.eq_1))) (And.intro (And.intro (@Go.Value.oneCell'.eq_2) (@Go.Value.oneCell'.eq_3)) (And.intro (@List.toList_toArray.{0}) (@Array.toList_append.{0}))))) (And.intro (And.intro (And.intro (And.intro (@Bool.not_not) (@List.cons.injEq.{0})) (And.intro (@false_and) (@Bool.not_true))) (And.intro (And.intro (@Bool.not_false) (@not_false_eq_true)) (And.intro (@imp_self) (@av_bt)))) (And.intro (And.intro (And.intro (@av_bf) (@av_and)) (And.intro (@av_or) (@av_nf))) (And.intro (And.intro (@av_tt) (@av_n1)) (And.intro (@av_n2) (And.intro (@av_t1) (@av_tp)))))))))
end Go.Proofs.Ytfmefdeldgmhpaa


namespace Go.Proofs.Ytfmefdeldgmhpaa
set_option linter.unusedVariables false
set_option linter.unusedSimpArgs false
open Go.RowKit
section
variable {P : Program} {B : Base} {T : Tab} {ops : Array Oper}
/-- one operation of the head, that may take a row made in the region: whatever else has run already -/
def HG (P : Program) (B : Base) (ops : Array Oper) (o : Oper) (tmi : Nat → V) (st0 : Nat → Option Blk) (rq : Option (Nat × Blk)) (nm : Nat) (v : V) (x : Option Blk) : Prop :=
  ∀ (tm : Nat → V) (σ : Nat → Option Blk) (fr : Nat → Prop) (E : Env) (a : Act), GamS P B σ fr E → GamT B tm E a → fr nm → (∀ n b, st0 n = some b → σ n = some b) → (∀ p, rq = some p → σ p.1 = some p.2) → (∀ t ∈ o.looksAt ops, tm t = tmi t) →
    (Region.wanted o (yielded ops a.tmps) = true → Upon P (fun u w' => ∃ E', E'.w = w' ∧ GamS P B (fun n => if n = nm then x else if rq.map (·.1) = some n then none else σ n) (fun n => fr n ∧ (x.isSome = true → n ≠ nm)) E' ∧ Ext E E' ∧ E'.dp = E.dp ∧ RV E' v u) ((execOp a.eval o).run P E.w)) ∧
    (Region.wanted o (yielded ops a.tmps) = false → x = none ∧ rq = none ∧ RV E v undef)
theorem HG.of {o : Oper} {tmi : Nat → V} {st0 : Nat → Option Blk} {nm : Nat} {v : V} {x : Option Blk} (h : HF P B ops o tmi st0 nm v x) : HG P B ops o tmi st0 none nm v x := by
  intro tm σ fr E a hS hT hfr hst _ hag
  obtain ⟨h1, h2⟩ := h tm σ fr E a hS hT hfr hst hag
  exact ⟨fun hw => (h1 hw).mono fun u w' ⟨E', e, hS', hr⟩ => ⟨E', e, hS'.congr (fun n => by simp) (fun n hn => hn), hr⟩, fun hw => ⟨(h2 hw).1, rfl, (h2 hw).2⟩⟩
end
end Go.Proofs.Ytfmefdeldgmhpaa


namespace Go.Proofs.Ytfmefdeldgmhpaa
set_option linter.unusedVariables false
set_option linter.unusedSimpArgs false
open Go.RowKit
section
variable {P : Program} {B : Base} {T : Tab}
end
end Go.Proofs.Ytfmefdeldgmhpaa

