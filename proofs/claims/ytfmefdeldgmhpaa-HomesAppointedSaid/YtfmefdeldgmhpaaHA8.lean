import Derived.Test.YtfmefdeldgmhpaaHA7
namespace Go.Proofs.Ytfmefdeldgmhpaa
set_option linter.unusedSimpArgs false
set_option linter.unusedVariables false
open Go.RowKit
set_option maxRecDepth 100000
set_option maxHeartbeats 4000000
def outV (o : List Int) : List (List Int × V) := o.map fun κ => ([κ], V.mp κ.toNat)
def rowB (κ : Int) (p : List Ent) : Blk := .map .i 3 zE (entV default) (mpV entV (rowK κ p))
def rowsB (o : List Int) (p : List Ent) : List (Nat × Blk) := o.map fun κ => (κ.toNat, rowB κ p)
def errO (l : List Ent) (person day time : Int) : Int := if errS l day time ≠ 0 then errS l day time else if person < 0 ∨ 1048576 < person then 1 else 0
def deskO (l : List Ent) (person day time : Int) : D := deskD (if errO l person day time = 0 then standE l day time else [])
theorem lkM_outV (κ : Int) : ∀ o : List Int, lkM [κ] (outV o) = if κ ∈ o then some (.mp κ.toNat) else none
  | [] => rfl
  | c :: o => by
    have ih := lkM_outV κ o
    simp only [outV, List.map_cons, lkM, List.mem_cons, List.cons.injEq, and_true] at ih ⊢
    by_cases h : κ = c
    · subst h; rw [if_pos rfl, if_pos (.inl rfl)]
    · rw [if_neg h, ih]; simp [h]
theorem upM_outV (κ : Int) (v : V) : ∀ o : List Int, κ ∉ o → upM [κ] v (outV o) = outV o ++ [([κ], v)]
  | [], _ => rfl
  | c :: o, h => by
    simp only [List.mem_cons, not_or] at h
    have ih := upM_outV κ v o h.2
    simp only [outV, List.map_cons, upM, List.cons.injEq, and_true, List.cons_append] at ih ⊢
    rw [if_neg h.1, ih]
theorem lkM_app (κ : Int) (v : V) (m : List (List Int × V)) (h : lkM [κ] m = none) : lkM [κ] (m ++ [([κ], v)]) = some v := by
  induction m with
  | nil => simp [lkM]
  | cons e m ih =>
    obtain ⟨d, x⟩ := e
    simp only [lkM, List.cons_append] at h ⊢
    split at h
    · cases h
    · rename_i hd; rw [if_neg hd]; exact ih h
theorem lkB_rowsB (p : List Ent) (κ : Int) : ∀ o : List Int, (∀ c ∈ o, 1 ≤ c) → 1 ≤ κ → lkB (rowsB o p) κ.toNat = if κ ∈ o then some (rowB κ p) else none
  | [], _, _ => rfl
  | c :: o, h, hκ => by
    have ih := lkB_rowsB p κ o (fun x hx => h x (by simp [hx])) hκ
    have hc := h c (by simp)
    simp only [rowsB, List.map_cons, lkB, List.mem_cons] at ih ⊢
    by_cases he : κ = c
    · subst he; rw [if_pos rfl, if_pos (.inl rfl)]
    · rw [if_neg (by omega), ih]; simp [he]
theorem subM_outV {ρ : Ren} : ∀ {o : List Int}, (∀ κ ∈ o, lkN ρ κ.toNat = some (some κ.toNat)) → subM ρ (outV o) (outV o)
  | [], _ => trivial
  | c :: o, h => ⟨⟨rfl, by simp only [subV]; exact h c (by simp)⟩, subM_outV fun κ hκ => h κ (by simp [hκ])⟩
theorem subM_app {ρ : Ren} : ∀ {l l' m m' : List (List Int × V)}, subM ρ l l' → subM ρ m m' → subM ρ (l ++ m) (l' ++ m')
  | [], [], _, _, _, h => h
  | (_, _) :: _, (_, _) :: _, _, _, h, k => ⟨h.1, subM_app h.2 k⟩
  | [], _ :: _, _, _, h, _ => by simp only [subM] at h
  | _ :: _, [], _, _, h, _ => by simp only [subM] at h
theorem wkB_rowsB {ρ : Ren} {st : List (Nat × Blk)} {p : List Ent} : ∀ {o : List Int}, (∀ κ ∈ o, wkB1 ρ st (rowB κ p) (lkN ρ κ.toNat)) → wkB ρ st (rowsB o p)
  | [], _ => trivial
  | c :: o, h => ⟨h c (by simp), wkB_rowsB fun κ hκ => h κ (by simp [hκ])⟩
theorem wkB_app {ρ : Ren} {st : List (Nat × Blk)} : ∀ {l m : List (Nat × Blk)}, wkB ρ st l → wkB ρ st m → wkB ρ st (l ++ m)
  | [], _, _, h => h
  | _ :: _, _, h, k => ⟨h.1, wkB_app h.2 k⟩
theorem subB_row {ρ : Ren} {κ : Int} {p p' : List Ent} (h : rowK κ p = rowK κ p') : subB ρ (rowB κ p) (rowB κ p') := by
  unfold rowB subB
  exact ⟨⟨rfl, rfl, rfl⟩, subV_ent _ _, subM_mpV (subV_ent _) h⟩
theorem stand_valid {l : List Ent} {day time : Int} (h : errS l day time = 0) : ∀ y ∈ standE l day time, validE y = true := by
  intro y hy
  have hc : checkL l = 0 := by
    unfold errS at h
    split at h
    · rename_i h1; exact absurd h h1
    · rename_i h1; simpa using h1
  rw [standE, if_pos h, standRef] at hy
  exact (checkL_ok hc).2.2 y (List.mem_filter.1 hy).1
theorem stand_len (l : List Ent) (day time : Int) : (standE l day time).length ≤ l.length := by
  unfold standE
  split
  · unfold standRef; exact List.length_filter_le _ _
  · simp
theorem rd_nilD (F : Ft) (w : World) : RD F w (.ag (entD default)) zE := by
  simp only [RD]
  refine ⟨(List.replicate 8 (.int .i64 0)), rfl, ?_, by simp [Value.oneCell']⟩
  simp only [entD, default, RDL, RD]
  simp [List.replicate]
theorem rd_nilp (F : Ft) (w : World) : RD F w nilD (.map none) := by
  unfold nilD
  exact rd_nilmp (rd_nilD F w) (by simp [RD])
theorem hopen_spec (l : List Ent) (person day time : Int) (hl : l.length ≤ 140737488351232) (hk : ∀ k, i64 (l.getD k default).kind) : Spec Try.prog 37 [aEs l, aI person, aI day, aI time] (.rt [.one (deskO l person day time), aI (errO l person day time)]) := by
  refine spec_of T_ok Try.func37 (by dsimp only [Try.f37]) rfl rfl (by simp) fun w F => ?_
  repeat' (first
    | (with_reducible refine aw_seq ?_)
    | ((with_reducible refine twoG_intro ?_ ?_) <;> intro hTw <;> first | (exact Bool.noConfusion hTw) | ((try simp only [hTw, Bool.not_true, Bool.not_false, Bool.true_and, Bool.false_and, Bool.and_true, Bool.and_false, Bool.true_or, Bool.false_or, Bool.or_true, Bool.or_false]); (first | (guard_hyp hTw : true = true; clear hTw) | (guard_hyp hTw : false = false; clear hTw) | (revert hTw; intro _))))
    | ((with_reducible refine two_intro ?_ ?_) <;> intro hTw <;> first | (exact Bool.noConfusion hTw) | ((first | (guard_hyp hTw : true = true; clear hTw) | (guard_hyp hTw : false = false; clear hTw) | (revert hTw; intro _))))
    | ((with_reducible refine And.intro ?_ ?_); (focus (first | exact keyOk_int_ | omega | rfl | decide | grind)))
    | (with_reducible refine aw_block ?_)
    | (with_reducible refine aw_scope ?_)
    | ((first
        | ((with_reducible refine aw_regionA T_ok ?_ ?_); (focus kernel_rfl))
        | ((with_reducible refine aw_drawnA T_ok ?_ ?_ ?_ ?_); (focus kernel_rfl); (focus kernel_rfl); (focus (decide +kernel)))
        | ((with_reducible refine aw_drawnF T_ok ?_ ?_ ?_ ?_); (focus kernel_rfl); (focus kernel_rfl); (focus (decide +kernel)))
        | ((with_reducible refine callK_intro (gstanding_spec l day time hl hk) (by with_unfolding_all rfl) ?_ ?_); (focus kernel_rfl))
        | ((with_reducible refine callI_spec (gstanding_spec l day time hl hk) (by with_unfolding_all rfl) ?_ ?_ ?_); (focus kernel_rfl); (focus kernel_rfl))
        | (with_reducible refine aw_label ?_)
        | ((with_reducible refine aw_rfM ?_ ?_); (focus kernel_rfl))
        | (with_reducible refine aw_skip ?_)
        | (with_reducible refine aw_exit ?_)
        | ((with_reducible refine aw_condM ?_ ?_); (focus kernel_rfl))
        | (with_reducible refine aw_ret ?_)
      ); simp only [↓rwp.eq_def, ↓sop.eq_def, ↓slotK.eq_def, inV, shT, unT, inQ, rfQ, rfEnd, resOf, pickT, setP, ydA, ydQ, rowW, vD, fillV,  ↓gop.eq_def, ↓hop.eq_def, ↓hopH.eq_def, ↓hwp.eq_def, ↓ldV.eq_def, ↓ldK.eq_def, ↓ixK.eq_def, ↓addOff.eq_def, ↓exK.eq_def, ↓notK.eq_def, ↓pickK.eq_def, ↓iop2.eq_def, ↓binK.eq_def, ↓eqop.eq_def, icells, ↓iop.eq_def, ↓cutK.eq_def, ↓lenK.eq_def, ↓lenM.eq_def, tyInt, ↓lookK.eq_def, ↓mpK.eq_def, keyV, allI, fitK, lkM, upM, dlM, kq, ↓cvK.eq_def, ↓mmK.eq_def, ↓biK.eq_def, ↓stK.eq_def, ↓apK.eq_def, ↓apD.eq_def, ↓apM.eq_def, isMo, ↓apS.eq_def, nxt, put, setT, setB, delB, lkT_n, lkT_c, lkB_n, lkB_c, ev, ofC, inT, ofA, ofRet, dV_n, dV_c, getD_enc, toDs_dV, List.head?_cons, List.length_map, Option.toArray_some, Option.toArray_none, Int.toNat_natCast, slOf, TyK.agg, vcells, splice, pickOps, headF, restF, allF, zOf, strip, stripP, gOf, allP, rowV, toDs, toD, toA, toAs, headOps, tailOps, isT, addN, Op.operands, Call.operands, List.map_cons, List.map_nil, List.drop_zero, List.drop_succ_cons, List.take_succ_cons, List.take_zero, List.length_cons, List.length_nil, List.getElem?_cons_zero, List.getElem?_cons_succ, List.getElem?_toArray, Option.bind_some, Option.map_some, Option.map_none, List.append_nil, List.nil_append, List.cons_append, if_true, if_false, reduceIte, Nat.reduceEqDiff, Nat.reduceAdd, Nat.reduceSub, Int.reduceToNat, Nat.reduceLeDiff, Nat.reduceLT, and_false, and_self, Nat.zero_add, Nat.add_zero, reduceCtorEq, Option.getD_some, Option.getD_none, Option.isSome_some, Option.isSome_none, forall_const, true_and, and_true, true_implies, Bool.true_and, Bool.false_and, Bool.and_true, Bool.and_false, Bool.true_or, Bool.false_or, Bool.or_true, Bool.or_false, beq_self_eq_true, zipM, zcells, Value.cells, Value.oneCell', List.toList_toArray, Array.toList_append, Bool.not_not, List.cons.injEq, Int.reduceEq, eq_self, false_and, Bool.not_true, Bool.not_false, ne_eq, not_false_eq_true, imp_self, implies_true, av_bt, av_bf, av_and, av_or, av_nf, av_tt, av_n1, av_n2, av_t1, av_tp, retQ, retL, resV, RetV, RetOk, SubL, entD_len, entD_take, entD_hd, entD_ln, entD_ic, entD_d1, entD_d2, entD_d3, entD_d4, entD_d5, entD_d6, entD_d7, ty_39, ty_3, ty_22, ty_56, ty_63, upM_ent, lkM_ent, entV]; try simp (disch := omega) only [av_w, av_t1, av_tp, Int.toNat_natCast]))
  · rename_i h1
    have he : errS l day time ≠ 0 := by simpa using h1
    have ho : errO l person day time = errS l day time := by simp [errO, he]
    rw [ho, deskO, if_neg (by rw [ho]; exact he)]
    exact ⟨Sub.nilmp (fun F w => rd_nilp F w), Sub.refl _⟩
  · rename_i h1 h2
    have he : errS l day time = 0 := by simpa using h1
    have ho : errO l person day time = 1 := by simp [errO, he] at h2 ⊢; omega
    rw [ho, deskO, if_neg (by rw [ho]; decide)]
    exact ⟨Sub.nilmp (fun F w => rd_nilp F w), Sub.refl _⟩
  rename_i h1 h2
  have he : errS l day time = 0 := by simpa using h1
  have ho : errO l person day time = 0 := by simp [errO, he] at h2 ⊢; omega
  have hv := stand_valid he
  have hl2 := stand_len l day time
  rw [ho, deskO, if_pos ho, he]
  clear ho he h1 h2
  obtain ⟨xs, hxs⟩ : ∃ xs, xs = standE l day time := ⟨_, rfl⟩
  rw [← hxs] at hv hl2 ⊢
  clear hxs
  have hkb : ∀ y ∈ xs, 1 ≤ y.kind ∧ y.kind ≤ 4 ∧ 0 ≤ y.a ∧ y.a ≤ 1048576 := fun y hy => by
    have := hv y hy
    simp only [validE, fitsB, idB] at this
    grind
  have hoK : ∀ p : List Ent, (∀ y ∈ p, y ∈ xs) → ∀ κ ∈ ordK p, 1 ≤ κ ∧ κ ≤ 4 := fun p hp κ hκ => by
    obtain ⟨y, h1, h2⟩ := (mem_ordK p κ).1 hκ
    have := hkb y (hp y h1)
    omega
  refine aw_loopI (fun k : Nat => ⟨[(8, .mp 0), (30, vEs xs), (31, vI xs.length), (32, vI k)], (0, .map .i 3 (.map none) (.d (.c (.map none))) (outV (ordK (xs.take k)))) :: rowsB (ordK (xs.take k)) (xs.take k), 5⟩) (fun k => k ≤ xs.length) (fun k => xs.length - k) 0 (Nat.zero_le _) (wk_of [(0, some 0)] rfl rfl ?_ ?_) ?_
  · simp only [wkT, wkB, wkB1, subV, subVs, subD, subB, lkN_n, lkN_c, lkT_n, lkT_c, lkB_n, lkB_c, if_true, if_false, reduceIte, Nat.reduceEqDiff, true_and, and_true, and_self, inT, ofA]
    rfl
  · rw [List.take_zero]
    exact ⟨⟨⟨rfl, rfl, rfl⟩, rfl, trivial⟩, trivial⟩
  intro k hk'
  repeat (first
    | (with_reducible refine aw_seq ?_)
    | ((with_reducible refine And.intro ?_ ?_); (focus (first | exact keyOk_int_ | omega | rfl | decide | grind)))
    | (with_reducible refine aw_block ?_)
    | (with_reducible refine aw_scope ?_)
    | ((first
        | ((with_reducible refine aw_regionA T_ok ?_ ?_); (focus kernel_rfl))
        | ((with_reducible refine aw_drawnA T_ok ?_ ?_ ?_ ?_); (focus kernel_rfl); (focus kernel_rfl); (focus (decide +kernel)))
        | ((with_reducible refine aw_drawnF T_ok ?_ ?_ ?_ ?_); (focus kernel_rfl); (focus kernel_rfl); (focus (decide +kernel)))
        | (with_reducible refine aw_label ?_)
        | ((with_reducible refine aw_rfM ?_ ?_); (focus kernel_rfl))
        | (with_reducible refine aw_skip ?_)
        | (with_reducible refine aw_exit ?_)
      ); simp only [↓rwp.eq_def, ↓sop.eq_def, ↓slotK.eq_def, inV, shT, unT, inQ, rfQ, rfEnd, resOf, pickT, setP, ydA, ydQ, rowW, vD, fillV,  ↓gop.eq_def, ↓hop.eq_def, ↓hopH.eq_def, ↓hwp.eq_def, ↓ldV.eq_def, ↓ldK.eq_def, ↓ixK.eq_def, ↓addOff.eq_def, ↓exK.eq_def, ↓notK.eq_def, ↓pickK.eq_def, ↓iop2.eq_def, ↓binK.eq_def, ↓eqop.eq_def, icells, ↓iop.eq_def, ↓cutK.eq_def, ↓lenK.eq_def, ↓lenM.eq_def, tyInt, ↓lookK.eq_def, ↓mpK.eq_def, keyV, allI, fitK, lkM, upM, dlM, kq, ↓cvK.eq_def, ↓mmK.eq_def, ↓biK.eq_def, ↓stK.eq_def, ↓apK.eq_def, ↓apD.eq_def, ↓apM.eq_def, isMo, ↓apS.eq_def, nxt, put, setT, setB, delB, lkT_n, lkT_c, lkB_n, lkB_c, ev, ofC, inT, ofA, ofRet, dV_n, dV_c, getD_enc, toDs_dV, List.head?_cons, List.length_map, Option.toArray_some, Option.toArray_none, Int.toNat_natCast, slOf, TyK.agg, vcells, splice, pickOps, headF, restF, allF, zOf, strip, stripP, gOf, allP, rowV, toDs, toD, toA, toAs, headOps, tailOps, isT, addN, Op.operands, Call.operands, List.map_cons, List.map_nil, List.drop_zero, List.drop_succ_cons, List.take_succ_cons, List.take_zero, List.length_cons, List.length_nil, List.getElem?_cons_zero, List.getElem?_cons_succ, List.getElem?_toArray, Option.bind_some, Option.map_some, Option.map_none, List.append_nil, List.nil_append, List.cons_append, if_true, if_false, reduceIte, Nat.reduceEqDiff, Nat.reduceAdd, Nat.reduceSub, Int.reduceToNat, Nat.reduceLeDiff, Nat.reduceLT, and_false, and_self, Nat.zero_add, Nat.add_zero, reduceCtorEq, Option.getD_some, Option.getD_none, Option.isSome_some, Option.isSome_none, forall_const, true_and, and_true, true_implies, Bool.true_and, Bool.false_and, Bool.and_true, Bool.and_false, Bool.true_or, Bool.false_or, Bool.or_true, Bool.or_false, beq_self_eq_true, zipM, zcells, Value.cells, Value.oneCell', List.toList_toArray, Array.toList_append, Bool.not_not, List.cons.injEq, Int.reduceEq, eq_self, false_and, Bool.not_true, Bool.not_false, ne_eq, not_false_eq_true, imp_self, implies_true, av_bt, av_bf, av_and, av_or, av_nf, av_tt, av_n1, av_n2, av_t1, av_tp, retQ, retL, resV, RetV, RetOk, SubL, entD_len, entD_take, entD_hd, entD_ln, entD_ic, entD_d1, entD_d2, entD_d3, entD_d4, entD_d5, entD_d6, entD_d7, ty_39, ty_3, ty_22, ty_56, ty_63, upM_ent, lkM_ent, entV]; try simp (disch := omega) only [av_w, av_t1, av_tp, Int.toNat_natCast]))
  refine aw_condM (by kernel_rfl) ?_
  simp only [↓rwp.eq_def, ↓sop.eq_def, ↓slotK.eq_def, inV, shT, unT, inQ, rfQ, rfEnd, resOf, pickT, setP, ydA, ydQ, rowW, vD, fillV,  ↓gop.eq_def, ↓hop.eq_def, ↓hopH.eq_def, ↓hwp.eq_def, ↓ldV.eq_def, ↓ldK.eq_def, ↓ixK.eq_def, ↓addOff.eq_def, ↓exK.eq_def, ↓notK.eq_def, ↓pickK.eq_def, ↓iop2.eq_def, ↓binK.eq_def, ↓eqop.eq_def, icells, ↓iop.eq_def, ↓cutK.eq_def, ↓lenK.eq_def, ↓lenM.eq_def, tyInt, ↓lookK.eq_def, ↓mpK.eq_def, keyV, allI, fitK, lkM, upM, dlM, kq, ↓cvK.eq_def, ↓mmK.eq_def, ↓biK.eq_def, ↓stK.eq_def, ↓apK.eq_def, ↓apD.eq_def, ↓apM.eq_def, isMo, ↓apS.eq_def, nxt, put, setT, setB, delB, lkT_n, lkT_c, lkB_n, lkB_c, ev, ofC, inT, ofA, ofRet, dV_n, dV_c, getD_enc, toDs_dV, List.head?_cons, List.length_map, Option.toArray_some, Option.toArray_none, Int.toNat_natCast, slOf, TyK.agg, vcells, splice, pickOps, headF, restF, allF, zOf, strip, stripP, gOf, allP, rowV, toDs, toD, toA, toAs, headOps, tailOps, isT, addN, Op.operands, Call.operands, List.map_cons, List.map_nil, List.drop_zero, List.drop_succ_cons, List.take_succ_cons, List.take_zero, List.length_cons, List.length_nil, List.getElem?_cons_zero, List.getElem?_cons_succ, List.getElem?_toArray, Option.bind_some, Option.map_some, Option.map_none, List.append_nil, List.nil_append, List.cons_append, if_true, if_false, reduceIte, Nat.reduceEqDiff, Nat.reduceAdd, Nat.reduceSub, Int.reduceToNat, Nat.reduceLeDiff, Nat.reduceLT, and_false, and_self, Nat.zero_add, Nat.add_zero, reduceCtorEq, Option.getD_some, Option.getD_none, Option.isSome_some, Option.isSome_none, forall_const, true_and, and_true, true_implies, Bool.true_and, Bool.false_and, Bool.and_true, Bool.and_false, Bool.true_or, Bool.false_or, Bool.or_true, Bool.or_false, beq_self_eq_true, zipM, zcells, Value.cells, Value.oneCell', List.toList_toArray, Array.toList_append, Bool.not_not, List.cons.injEq, Int.reduceEq, eq_self, false_and, Bool.not_true, Bool.not_false, ne_eq, not_false_eq_true, imp_self, implies_true, av_bt, av_bf, av_and, av_or, av_nf, av_tt, av_n1, av_n2, av_t1, av_tp]
  refine two_intro ?_ ?_ <;> intro h1
  · have hlt : k < xs.length := by simp at h1; omega
    obtain ⟨y, hy⟩ : ∃ y, y = xs.getD k default := ⟨_, rfl⟩
    have hyx : y ∈ xs := by rw [hy]; simp [List.getD, hlt]
    have hb := hkb y hyx
    have htk : xs.take (k + 1) = xs.take k ++ [y] := by
      rw [List.take_succ_eq_append_getElem hlt, hy]; simp [List.getD, hlt]
    have hps : ∀ z ∈ xs.take k, z ∈ xs := fun z hz => List.mem_of_mem_take hz
    have hps' : ∀ z ∈ xs.take (k + 1), z ∈ xs := fun z hz => List.mem_of_mem_take hz
    have hok := hoK _ hps
    have hok' := hoK _ hps'
    obtain ⟨p, hp⟩ : ∃ p, p = xs.take k := ⟨_, rfl⟩
    obtain ⟨n, hn⟩ : ∃ n : Nat, n = y.kind.toNat := ⟨_, rfl⟩
    have hnk : y.kind = (n : Int) := by omega
    have hn5 : (n = 5) = False := by simp; omega
    have hn0 : (n = 0) = False := by simp; omega
    rw [← hp] at htk hok ⊢
    by_cases hmem : y.kind ∈ ordK p
    · have hA : lkM [y.kind] (outV (ordK p)) = some (.mp n) := by rw [lkM_outV, if_pos hmem, hn]
      have hB : lkB (rowsB (ordK p) p) n = some (.map .i 3 zE (entV default) (mpV entV (rowK y.kind p))) := by
        rw [hn, lkB_rowsB p y.kind _ (fun c hc => (hok c hc).1) hb.1, if_pos hmem]; rfl
      repeat' (first
        | (with_reducible refine aw_seq ?_)
        | ((with_reducible refine twoG_intro ?_ ?_) <;> intro hTw <;> first | (exact Bool.noConfusion hTw) | ((try simp only [hTw, Bool.not_true, Bool.not_false, Bool.true_and, Bool.false_and, Bool.and_true, Bool.and_false, Bool.true_or, Bool.false_or, Bool.or_true, Bool.or_false]); (first | (guard_hyp hTw : true = true; clear hTw) | (guard_hyp hTw : false = false; clear hTw) | (revert hTw; intro _))))
        | ((with_reducible refine two_intro ?_ ?_) <;> intro hTw <;> first | (exact Bool.noConfusion hTw) | ((first | (guard_hyp hTw : true = true; clear hTw) | (guard_hyp hTw : false = false; clear hTw) | (revert hTw; intro _))))
        | ((with_reducible refine And.intro ?_ ?_); (focus (first | exact keyOk_int_ | omega | rfl | decide | grind)))
        | (with_reducible refine aw_block ?_)
        | (with_reducible refine aw_scope ?_)
        | ((first
            | ((with_reducible refine aw_regionA T_ok ?_ ?_); (focus kernel_rfl))
            | ((with_reducible refine aw_drawnA T_ok ?_ ?_ ?_ ?_); (focus kernel_rfl); (focus kernel_rfl); (focus (decide +kernel)))
            | ((with_reducible refine aw_drawnF T_ok ?_ ?_ ?_ ?_); (focus kernel_rfl); (focus kernel_rfl); (focus (decide +kernel)))
            | (with_reducible refine aw_label ?_)
            | ((with_reducible refine aw_rfM ?_ ?_); (focus kernel_rfl))
            | (with_reducible refine aw_skip ?_)
            | (with_reducible refine aw_exit ?_)
            | ((with_reducible refine aw_condM ?_ ?_); (focus kernel_rfl))
            | (with_reducible refine aw_ret ?_)
          ); simp only [↓rwp.eq_def, ↓sop.eq_def, ↓slotK.eq_def, inV, shT, unT, inQ, rfQ, rfEnd, resOf, pickT, setP, ydA, ydQ, rowW, vD, fillV,  ↓gop.eq_def, ↓hop.eq_def, ↓hopH.eq_def, ↓hwp.eq_def, ↓ldV.eq_def, ↓ldK.eq_def, ↓ixK.eq_def, ↓addOff.eq_def, ↓exK.eq_def, ↓notK.eq_def, ↓pickK.eq_def, ↓iop2.eq_def, ↓binK.eq_def, ↓eqop.eq_def, icells, ↓iop.eq_def, ↓cutK.eq_def, ↓lenK.eq_def, ↓lenM.eq_def, tyInt, ↓lookK.eq_def, ↓mpK.eq_def, keyV, allI, fitK, lkM, upM, dlM, kq, ↓cvK.eq_def, ↓mmK.eq_def, ↓biK.eq_def, ↓stK.eq_def, ↓apK.eq_def, ↓apD.eq_def, ↓apM.eq_def, isMo, ↓apS.eq_def, nxt, put, setT, setB, delB, lkT_n, lkT_c, lkB_n, lkB_c, ev, ofC, inT, ofA, ofRet, dV_n, dV_c, getD_enc, toDs_dV, List.head?_cons, List.length_map, Option.toArray_some, Option.toArray_none, Int.toNat_natCast, slOf, TyK.agg, vcells, splice, pickOps, headF, restF, allF, zOf, strip, stripP, gOf, allP, rowV, toDs, toD, toA, toAs, headOps, tailOps, isT, addN, Op.operands, Call.operands, List.map_cons, List.map_nil, List.drop_zero, List.drop_succ_cons, List.take_succ_cons, List.take_zero, List.length_cons, List.length_nil, List.getElem?_cons_zero, List.getElem?_cons_succ, List.getElem?_toArray, Option.bind_some, Option.map_some, Option.map_none, List.append_nil, List.nil_append, List.cons_append, if_true, if_false, reduceIte, Nat.reduceEqDiff, Nat.reduceAdd, Nat.reduceSub, Int.reduceToNat, Nat.reduceLeDiff, Nat.reduceLT, and_false, and_self, Nat.zero_add, Nat.add_zero, reduceCtorEq, Option.getD_some, Option.getD_none, Option.isSome_some, Option.isSome_none, forall_const, true_and, and_true, true_implies, Bool.true_and, Bool.false_and, Bool.and_true, Bool.and_false, Bool.true_or, Bool.false_or, Bool.or_true, Bool.or_false, beq_self_eq_true, zipM, zcells, Value.cells, Value.oneCell', List.toList_toArray, Array.toList_append, Bool.not_not, List.cons.injEq, Int.reduceEq, eq_self, false_and, Bool.not_true, Bool.not_false, ne_eq, not_false_eq_true, imp_self, implies_true, av_bt, av_bf, av_and, av_or, av_nf, av_tt, av_n1, av_n2, av_t1, av_tp, retQ, retL, resV, RetV, RetOk, SubL, entD_len, entD_take, entD_hd, entD_ln, entD_ic, entD_d1, entD_d2, entD_d3, entD_d4, entD_d5, entD_d6, entD_d7, ty_39, ty_3, ty_22, ty_56, ty_63, upM_ent, lkM_ent, entV, ← hy, hA, hB, hn5, hn0]; try simp (disch := omega) only [av_w, av_t1, av_tp, Int.toNat_natCast]))
      have hoe : ordK (p ++ [y]) = ordK p := by rw [ordK_succ, ordS, if_pos hmem]
      have hid : ∀ κ ∈ ordK p, lkN [(0, some 0), (1, some 1), (2, some 2), (3, some 3), (4, some 4)] κ.toNat = some (some κ.toNat) := fun κ hκ => by
        have := hok κ hκ
        obtain rfl | rfl | rfl | rfl : κ = 1 ∨ κ = 2 ∨ κ = 3 ∨ κ = 4 := by omega
        all_goals rfl
      refine ⟨k + 1, by omega, by dsimp only; omega, wk_of [(0, some 0), (1, some 1), (2, some 2), (3, some 3), (4, some 4)] rfl rfl ?_ ?_⟩
      · simp only [wkT, wkB, wkB1, subV, subVs, subD, subB, lkN_n, lkN_c, lkT_n, lkT_c, lkB_n, lkB_c, if_true, if_false, reduceIte, Nat.reduceEqDiff, true_and, and_true, and_self, inT, ofA]
        (repeat' (first | exact trivial | rfl | exact rfl | refine And.intro ?_ ?_))
      · dsimp only
        rw [htk, hoe]
        refine ⟨⟨⟨rfl, rfl, rfl⟩, rfl, subM_outV hid⟩, wkB_rowsB fun κ hκ => ?_⟩
        rw [hid κ hκ]
        have hκ2 := hok κ hκ
        have hlk : lkB ((5, Blk.cells 39 (dV (entD y))) :: (0, Blk.map .i 3 (.map none) (.d (.c (.map none))) (outV (ordK p))) :: setB n (Blk.map .i 3 zE (.agg (dV (entD default))) (mpV entV (upA [y.a] y (rowK y.kind p)))) (rowsB (ordK p) p)) κ.toNat = some (rowB κ (p ++ [y])) := by
          rw [lkB_c, if_neg (by omega), lkB_c, if_neg (by omega), lkB_setB]
          by_cases hκy : κ = y.kind
          · rw [if_pos (by omega), hκy]
            unfold rowB
            rw [rowK_succ, rowS, if_pos rfl]
            rfl
          · rw [if_neg (by omega), lkB_rowsB p κ _ (fun c hc => (hok c hc).1) hκ2.1, if_pos hκ]
            unfold rowB
            rw [rowK_succ, rowS, if_neg (fun e => hκy e.symm)]
        simp only [wkB1, hlk]
        exact subB_row rfl
    · have hA : lkM [y.kind] (outV (ordK p)) = none := by rw [lkM_outV, if_neg hmem]
      have hU : ∀ v, upM [y.kind] v (outV (ordK p)) = outV (ordK p) ++ [([y.kind], v)] := fun v => upM_outV _ v _ hmem
      have hL : ∀ v, lkM [y.kind] (outV (ordK p) ++ [([y.kind], v)]) = some v := fun v => lkM_app _ v _ hA
      repeat' (first
        | (with_reducible refine aw_seq ?_)
        | ((with_reducible refine twoG_intro ?_ ?_) <;> intro hTw <;> first | (exact Bool.noConfusion hTw) | ((try simp only [hTw, Bool.not_true, Bool.not_false, Bool.true_and, Bool.false_and, Bool.and_true, Bool.and_false, Bool.true_or, Bool.false_or, Bool.or_true, Bool.or_false]); (first | (guard_hyp hTw : true = true; clear hTw) | (guard_hyp hTw : false = false; clear hTw) | (revert hTw; intro _))))
        | ((with_reducible refine two_intro ?_ ?_) <;> intro hTw <;> first | (exact Bool.noConfusion hTw) | ((first | (guard_hyp hTw : true = true; clear hTw) | (guard_hyp hTw : false = false; clear hTw) | (revert hTw; intro _))))
        | ((with_reducible refine And.intro ?_ ?_); (focus (first | exact keyOk_int_ | omega | rfl | decide | grind)))
        | (with_reducible refine aw_block ?_)
        | (with_reducible refine aw_scope ?_)
        | ((first
            | ((with_reducible refine aw_regionA T_ok ?_ ?_); (focus kernel_rfl))
            | ((with_reducible refine aw_drawnA T_ok ?_ ?_ ?_ ?_); (focus kernel_rfl); (focus kernel_rfl); (focus (decide +kernel)))
            | ((with_reducible refine aw_drawnF T_ok ?_ ?_ ?_ ?_); (focus kernel_rfl); (focus kernel_rfl); (focus (decide +kernel)))
            | (with_reducible refine aw_label ?_)
            | ((with_reducible refine aw_rfM ?_ ?_); (focus kernel_rfl))
            | (with_reducible refine aw_skip ?_)
            | (with_reducible refine aw_exit ?_)
            | ((with_reducible refine aw_condM ?_ ?_); (focus kernel_rfl))
            | (with_reducible refine aw_ret ?_)
          ); simp only [↓rwp.eq_def, ↓sop.eq_def, ↓slotK.eq_def, inV, shT, unT, inQ, rfQ, rfEnd, resOf, pickT, setP, ydA, ydQ, rowW, vD, fillV,  ↓gop.eq_def, ↓hop.eq_def, ↓hopH.eq_def, ↓hwp.eq_def, ↓ldV.eq_def, ↓ldK.eq_def, ↓ixK.eq_def, ↓addOff.eq_def, ↓exK.eq_def, ↓notK.eq_def, ↓pickK.eq_def, ↓iop2.eq_def, ↓binK.eq_def, ↓eqop.eq_def, icells, ↓iop.eq_def, ↓cutK.eq_def, ↓lenK.eq_def, ↓lenM.eq_def, tyInt, ↓lookK.eq_def, ↓mpK.eq_def, keyV, allI, fitK, lkM, upM, dlM, kq, ↓cvK.eq_def, ↓mmK.eq_def, ↓biK.eq_def, ↓stK.eq_def, ↓apK.eq_def, ↓apD.eq_def, ↓apM.eq_def, isMo, ↓apS.eq_def, nxt, put, setT, setB, delB, lkT_n, lkT_c, lkB_n, lkB_c, ev, ofC, inT, ofA, ofRet, dV_n, dV_c, getD_enc, toDs_dV, List.head?_cons, List.length_map, Option.toArray_some, Option.toArray_none, Int.toNat_natCast, slOf, TyK.agg, vcells, splice, pickOps, headF, restF, allF, zOf, strip, stripP, gOf, allP, rowV, toDs, toD, toA, toAs, headOps, tailOps, isT, addN, Op.operands, Call.operands, List.map_cons, List.map_nil, List.drop_zero, List.drop_succ_cons, List.take_succ_cons, List.take_zero, List.length_cons, List.length_nil, List.getElem?_cons_zero, List.getElem?_cons_succ, List.getElem?_toArray, Option.bind_some, Option.map_some, Option.map_none, List.append_nil, List.nil_append, List.cons_append, if_true, if_false, reduceIte, Nat.reduceEqDiff, Nat.reduceAdd, Nat.reduceSub, Int.reduceToNat, Nat.reduceLeDiff, Nat.reduceLT, and_false, and_self, Nat.zero_add, Nat.add_zero, reduceCtorEq, Option.getD_some, Option.getD_none, Option.isSome_some, Option.isSome_none, forall_const, true_and, and_true, true_implies, Bool.true_and, Bool.false_and, Bool.and_true, Bool.and_false, Bool.true_or, Bool.false_or, Bool.or_true, Bool.or_false, beq_self_eq_true, zipM, zcells, Value.cells, Value.oneCell', List.toList_toArray, Array.toList_append, Bool.not_not, List.cons.injEq, Int.reduceEq, eq_self, false_and, Bool.not_true, Bool.not_false, ne_eq, not_false_eq_true, imp_self, implies_true, av_bt, av_bf, av_and, av_or, av_nf, av_tt, av_n1, av_n2, av_t1, av_tp, retQ, retL, resV, RetV, RetOk, SubL, entD_len, entD_take, entD_hd, entD_ln, entD_ic, entD_d1, entD_d2, entD_d3, entD_d4, entD_d5, entD_d6, entD_d7, ty_39, ty_3, ty_22, ty_56, ty_63, upM_ent, lkM_ent, entV, ← hy, hA, hU, hL]; try simp (disch := omega) only [av_w, av_t1, av_tp, Int.toNat_natCast]))
      have hoe : ordK (p ++ [y]) = ordK p ++ [y.kind] := by rw [ordK_succ, ordS, if_neg hmem]
      have hn4 : n = 1 ∨ n = 2 ∨ n = 3 ∨ n = 4 := by omega
      obtain ⟨ρ, hρ⟩ : ∃ ρ : Ren, ρ = [(0, some 0), (1, some (if n = 1 then 6 else 1)), (2, some (if n = 2 then 6 else 2)), (3, some (if n = 3 then 6 else 3)), (4, some (if n = 4 then 6 else 4))] := ⟨_, rfl⟩
      have hid : ∀ κ ∈ ordK p, lkN ρ κ.toNat = some (some κ.toNat) := fun κ hκ => by
        have h1 := hok κ hκ
        have h2 : κ ≠ y.kind := fun e => hmem (by rw [← e]; exact hκ)
        rw [hρ]
        obtain rfl | rfl | rfl | rfl : κ = 1 ∨ κ = 2 ∨ κ = 3 ∨ κ = 4 := by omega
        all_goals (rcases hn4 with rfl | rfl | rfl | rfl <;> first | rfl | omega)
      have hnew : lkN ρ n = some (some 6) := by rw [hρ]; rcases hn4 with rfl | rfl | rfl | rfl <;> rfl
      have hρ0 : lkN ρ 0 = some (some 0) := by rw [hρ]; rfl
      refine ⟨k + 1, by omega, by dsimp only; omega, wk_of ρ (by rw [hρ]; rcases hn4 with rfl | rfl | rfl | rfl <;> rfl) (by rw [hρ]; rfl) ?_ ?_⟩
      · simp only [wkT, wkB, wkB1, subV, subVs, subD, subB, lkN_n, lkN_c, lkT_n, lkT_c, lkB_n, lkB_c, if_true, if_false, reduceIte, Nat.reduceEqDiff, true_and, and_true, and_self, inT, ofA, hρ0]
        (repeat' (first | exact trivial | rfl | exact rfl | refine And.intro ?_ ?_))
      · dsimp only
        rw [htk, hoe]
        have e1 : outV (ordK p ++ [y.kind]) = outV (ordK p) ++ [([y.kind], .mp n)] := by simp [outV, hn]
        have e2 : ∀ q, rowsB (ordK p ++ [y.kind]) q = rowsB (ordK p) q ++ [(n, rowB y.kind q)] := fun q => by simp [rowsB, hn]
        rw [e1, e2]
        refine ⟨?_, wkB_app (wkB_rowsB fun κ hκ => ?_) ⟨?_, trivial⟩⟩
        · rw [hρ0]
          exact ⟨⟨rfl, rfl, rfl⟩, rfl, subM_app (subM_outV hid) ⟨⟨rfl, by simp only [subV]; exact hnew⟩, trivial⟩⟩
        · rw [hid κ hκ]
          have hκ2 := hok κ hκ
          have hκy : κ ≠ y.kind := fun e => hmem (by rw [← e]; exact hκ)
          simp only [wkB1]
          rw [lkB_c, if_neg (by omega), lkB_c, if_neg (by omega), lkB_c, if_neg (by omega), lkB_rowsB p κ _ (fun c hc => (hok c hc).1) hκ2.1, if_pos hκ]
          exact subB_row (by rw [rowK_succ, rowS, if_neg (fun e => hκy e.symm)])
        · rw [hnew]
          simp only [wkB1]
          rw [lkB_c, if_pos rfl]
          have : rowK y.kind (p ++ [y]) = [([y.a], y)] := by rw [rowK_succ, rowS, if_pos rfl, rowK_none p _ hmem]; rfl
          unfold rowB
          rw [this]
          exact ⟨⟨rfl, rfl, rfl⟩, subV_ent ρ default, subM_mpV (m := [([y.a], y)]) (subV_ent ρ) rfl⟩
  · repeat (first
      | (with_reducible refine aw_seq ?_)
      | ((with_reducible refine And.intro ?_ ?_); (focus (first | exact keyOk_int_ | omega | rfl | decide | grind)))
      | (with_reducible refine aw_block ?_)
      | (with_reducible refine aw_scope ?_)
      | ((first
          | ((with_reducible refine aw_regionA T_ok ?_ ?_); (focus kernel_rfl))
          | ((with_reducible refine aw_drawnA T_ok ?_ ?_ ?_ ?_); (focus kernel_rfl); (focus kernel_rfl); (focus (decide +kernel)))
          | ((with_reducible refine aw_drawnF T_ok ?_ ?_ ?_ ?_); (focus kernel_rfl); (focus kernel_rfl); (focus (decide +kernel)))
          | (with_reducible refine aw_label ?_)
          | ((with_reducible refine aw_rfM ?_ ?_); (focus kernel_rfl))
          | (with_reducible refine aw_skip ?_)
          | (with_reducible refine aw_exit ?_)
        ); simp only [↓rwp.eq_def, ↓sop.eq_def, ↓slotK.eq_def, inV, shT, unT, inQ, rfQ, rfEnd, resOf, pickT, setP, ydA, ydQ, rowW, vD, fillV,  ↓gop.eq_def, ↓hop.eq_def, ↓hopH.eq_def, ↓hwp.eq_def, ↓ldV.eq_def, ↓ldK.eq_def, ↓ixK.eq_def, ↓addOff.eq_def, ↓exK.eq_def, ↓notK.eq_def, ↓pickK.eq_def, ↓iop2.eq_def, ↓binK.eq_def, ↓eqop.eq_def, icells, ↓iop.eq_def, ↓cutK.eq_def, ↓lenK.eq_def, ↓lenM.eq_def, tyInt, ↓lookK.eq_def, ↓mpK.eq_def, keyV, allI, fitK, lkM, upM, dlM, kq, ↓cvK.eq_def, ↓mmK.eq_def, ↓biK.eq_def, ↓stK.eq_def, ↓apK.eq_def, ↓apD.eq_def, ↓apM.eq_def, isMo, ↓apS.eq_def, nxt, put, setT, setB, delB, lkT_n, lkT_c, lkB_n, lkB_c, ev, ofC, inT, ofA, ofRet, dV_n, dV_c, getD_enc, toDs_dV, List.head?_cons, List.length_map, Option.toArray_some, Option.toArray_none, Int.toNat_natCast, slOf, TyK.agg, vcells, splice, pickOps, headF, restF, allF, zOf, strip, stripP, gOf, allP, rowV, toDs, toD, toA, toAs, headOps, tailOps, isT, addN, Op.operands, Call.operands, List.map_cons, List.map_nil, List.drop_zero, List.drop_succ_cons, List.take_succ_cons, List.take_zero, List.length_cons, List.length_nil, List.getElem?_cons_zero, List.getElem?_cons_succ, List.getElem?_toArray, Option.bind_some, Option.map_some, Option.map_none, List.append_nil, List.nil_append, List.cons_append, if_true, if_false, reduceIte, Nat.reduceEqDiff, Nat.reduceAdd, Nat.reduceSub, Int.reduceToNat, Nat.reduceLeDiff, Nat.reduceLT, and_false, and_self, Nat.zero_add, Nat.add_zero, reduceCtorEq, Option.getD_some, Option.getD_none, Option.isSome_some, Option.isSome_none, forall_const, true_and, and_true, true_implies, Bool.true_and, Bool.false_and, Bool.and_true, Bool.and_false, Bool.true_or, Bool.false_or, Bool.or_true, Bool.or_false, beq_self_eq_true, zipM, zcells, Value.cells, Value.oneCell', List.toList_toArray, Array.toList_append, Bool.not_not, List.cons.injEq, Int.reduceEq, eq_self, false_and, Bool.not_true, Bool.not_false, ne_eq, not_false_eq_true, imp_self, implies_true, av_bt, av_bf, av_and, av_or, av_nf, av_tt, av_n1, av_n2, av_t1, av_tp, retQ, retL, resV, RetV, RetOk, SubL, entD_len, entD_take, entD_hd, entD_ln, entD_ic, entD_d1, entD_d2, entD_d3, entD_d4, entD_d5, entD_d6, entD_d7, ty_39, ty_3, ty_22, ty_56, ty_63, upM_ent, lkM_ent, entV]; try simp (disch := omega) only [av_w, av_t1, av_tp, Int.toNat_natCast]))
    have hk2 : k = xs.length := by simp at h1; omega
    subst hk2
    rw [List.take_length]
    have hok := hoK xs (fun _ h => h)
    refine aw_wk (wk_frz (tm' := [(8, .d (deskD xs)), (9, vI 0)]) ⟨⟨2, deskD xs, rfl, ?_⟩, ⟨0, .c (.int .i64 0), rfl, Frz.d⟩, trivial⟩) ?_
    · refine Frz.mp (z1 := .c (.map none)) rfl Frz.d (fun F w u h => rd_nilmp (rd_nilD F w) h) ?_ ?_ ?_
      · simp [outV]
      · simp [outV]
      · intro i x d' h1 h2
        simp only [outV, List.getElem?_map] at h1 h2
        cases hi : (ordK xs)[i]? with
        | none => rw [hi] at h1; cases h1
        | some κ =>
          rw [hi] at h1 h2
          simp only [Option.map_some, Option.some.injEq] at h1 h2
          subst h1 h2
          have hκ : κ ∈ ordK xs := List.mem_of_getElem? hi
          have hκ2 := hok κ hκ
          have hlk : lkB ((0, Blk.map .i 3 (.map none) (.d (.c (.map none))) (outV (ordK xs))) :: rowsB (ordK xs) xs) κ.toNat = some (.map .i 3 zE (entV default) (mpV entV (rowK κ xs))) := by
            rw [lkB_c, if_neg (by omega), lkB_rowsB xs κ _ (fun c hc => (hok c hc).1) hκ2.1, if_pos hκ]
            rfl
          refine Frz.mp (z1 := .ag (entD default)) hlk Frz.ag (fun _ _ _ h => h) (mpV_keys _ _).symm (by rw [mpV_length]; simp) ?_
          intro j x d' h1 h2
          rw [mpV_get] at h1
          rw [List.getElem?_map] at h2
          cases hj : (rowK κ xs)[j]? with
          | none => rw [hj] at h1; cases h1
          | some q =>
            rw [hj] at h1 h2
            simp only [Option.map_some, Option.some.injEq] at h1 h2
            subst h1 h2
            exact Frz.ag
    · refine aw_ret ?_
      simp only [↓rwp.eq_def, ↓sop.eq_def, ↓slotK.eq_def, inV, shT, unT, inQ, rfQ, rfEnd, resOf, pickT, setP, ydA, ydQ, rowW, vD, fillV,  ↓gop.eq_def, ↓hop.eq_def, ↓hopH.eq_def, ↓hwp.eq_def, ↓ldV.eq_def, ↓ldK.eq_def, ↓ixK.eq_def, ↓addOff.eq_def, ↓exK.eq_def, ↓notK.eq_def, ↓pickK.eq_def, ↓iop2.eq_def, ↓binK.eq_def, ↓eqop.eq_def, icells, ↓iop.eq_def, ↓cutK.eq_def, ↓lenK.eq_def, ↓lenM.eq_def, tyInt, ↓lookK.eq_def, ↓mpK.eq_def, keyV, allI, fitK, lkM, upM, dlM, kq, ↓cvK.eq_def, ↓mmK.eq_def, ↓biK.eq_def, ↓stK.eq_def, ↓apK.eq_def, ↓apD.eq_def, ↓apM.eq_def, isMo, ↓apS.eq_def, nxt, put, setT, setB, delB, lkT_n, lkT_c, lkB_n, lkB_c, ev, ofC, inT, ofA, ofRet, dV_n, dV_c, getD_enc, toDs_dV, List.head?_cons, List.length_map, Option.toArray_some, Option.toArray_none, Int.toNat_natCast, slOf, TyK.agg, vcells, splice, pickOps, headF, restF, allF, zOf, strip, stripP, gOf, allP, rowV, toDs, toD, toA, toAs, headOps, tailOps, isT, addN, Op.operands, Call.operands, List.map_cons, List.map_nil, List.drop_zero, List.drop_succ_cons, List.take_succ_cons, List.take_zero, List.length_cons, List.length_nil, List.getElem?_cons_zero, List.getElem?_cons_succ, List.getElem?_toArray, Option.bind_some, Option.map_some, Option.map_none, List.append_nil, List.nil_append, List.cons_append, if_true, if_false, reduceIte, Nat.reduceEqDiff, Nat.reduceAdd, Nat.reduceSub, Int.reduceToNat, Nat.reduceLeDiff, Nat.reduceLT, and_false, and_self, Nat.zero_add, Nat.add_zero, reduceCtorEq, Option.getD_some, Option.getD_none, Option.isSome_some, Option.isSome_none, forall_const, true_and, and_true, true_implies, Bool.true_and, Bool.false_and, Bool.and_true, Bool.and_false, Bool.true_or, Bool.false_or, Bool.or_true, Bool.or_false, beq_self_eq_true, zipM, zcells, Value.cells, Value.oneCell', List.toList_toArray, Array.toList_append, Bool.not_not, List.cons.injEq, Int.reduceEq, eq_self, false_and, Bool.not_true, Bool.not_false, ne_eq, not_false_eq_true, imp_self, implies_true, av_bt, av_bf, av_and, av_or, av_nf, av_tt, av_n1, av_n2, av_t1, av_tp, retQ, retL, resV, RetV, RetOk, SubL, entD_len, entD_take, entD_hd, entD_ln, entD_ic, entD_d1, entD_d2, entD_d3, entD_d4, entD_d5, entD_d6, entD_d7, ty_39, ty_3, ty_22, ty_56, ty_63, upM_ent, lkM_ent, entV]
      exact ⟨Sub.refl _, Sub.refl _⟩
end Go.Proofs.Ytfmefdeldgmhpaa


namespace Go.Proofs.Ytfmefdeldgmhpaa
set_option linter.unusedSimpArgs false
set_option linter.unusedVariables false
open Go.RowKit
def nxK (xs : List Ent) (p : Int) : Option Int := (lastK 2 p xs).map (·.b)
def askedL (xs : List Ent) (p : Int) : List Int × Bool := chainF (nxK xs) xs.length [] p
theorem lastK_some' (κ a : Int) (p : List Ent) : ∀ e, lastK κ a p = some e → e ∈ p ∧ e.kind = κ ∧ e.a = a := by
  refine list_snoc (motive := fun p => ∀ e, lastK κ a p = some e → e ∈ p ∧ e.kind = κ ∧ e.a = a) (fun e h => by simp [lastK] at h) (fun p y ih e h => ?_) p
  rw [lastK, List.foldl_append] at h
  simp only [List.foldl_cons, List.foldl_nil] at h
  split at h
  · rename_i hy; cases h; exact ⟨by simp, hy.1, hy.2⟩
  · obtain ⟨h1, h2⟩ := ih e h; exact ⟨by simp [h1], h2⟩
theorem lastK_some {κ a : Int} {p : List Ent} {e : Ent} (h : lastK κ a p = some e) : e ∈ p ∧ e.kind = κ ∧ e.a = a := lastK_some' κ a p e h
theorem nxK_mem (xs : List Ent) (p : Int) (h : nxK xs p ≠ none) : p ∈ xs.map (·.a) := by
  unfold nxK at h
  cases hl : lastK 2 p xs with
  | none => rw [hl] at h; simp at h
  | some e =>
    obtain ⟨h1, _, h3⟩ := lastK_some hl
    exact List.mem_map.2 ⟨e, h1, h3⟩
def unmet (xs : List Ent) (met : List Int) : Nat := ((xs.map (·.a)).filter (fun x => decide (x ∉ met))).length
/-- a state of the walk along the chain: n rounds at most, acc asked already, p asked now -/
structure ChainAt (xs : List Ent) (p0 : Int) (n : Nat) (acc : List Int) (p : Int) : Prop where
  fresh : p ∉ acc.reverse
  room : unmet xs acc.reverse ≤ n
  all : askedL xs p0 = (acc ++ (chainF (nxK xs) n acc.reverse p).1, (chainF (nxK xs) n acc.reverse p).2)
theorem chainAt_zero (xs : List Ent) (p0 : Int) : ChainAt xs p0 xs.length [] p0 :=
  ⟨by simp, by unfold unmet; exact Nat.le_trans (List.length_filter_le _ _) (by simp), by simp [askedL]⟩
theorem ChainAt.room_pos {xs : List Ent} {p0 p : Int} {n : Nat} {acc : List Int} (h : ChainAt xs p0 n acc p) {q : Int} (hq : nxK xs p = some q) : ∃ m, n = m + 1 ∧ unmet xs (p :: acc.reverse) ≤ m := by
  have hp := nxK_mem xs p (by rw [hq]; simp)
  have := filter_shrinks (xs.map (·.a)) acc.reverse p hp h.fresh
  have hr := h.room
  unfold unmet at *
  exact ⟨n - 1, by omega, by omega⟩
theorem ChainAt.stop {xs : List Ent} {p0 p : Int} {n : Nat} {acc : List Int} (h : ChainAt xs p0 n acc p) (hq : nxK xs p = none) : askedL xs p0 = (acc ++ [p], false) := by
  rw [h.all]
  cases n <;> simp [chainF, hq]
theorem ChainAt.circle {xs : List Ent} {p0 p q : Int} {n : Nat} {acc : List Int} (h : ChainAt xs p0 n acc p) (hq : nxK xs p = some q) (hm : q ∈ acc ++ [p]) : askedL xs p0 = (acc ++ [p], true) := by
  obtain ⟨m, rfl, _⟩ := h.room_pos hq
  have hm' : q ∈ p :: acc.reverse := by simp at hm ⊢; exact hm.symm
  rw [h.all]
  simp [chainF, hq, hm']
theorem ChainAt.next {xs : List Ent} {p0 p q : Int} {n : Nat} {acc : List Int} (h : ChainAt xs p0 n acc p) (hq : nxK xs p = some q) (hm : q ∉ acc ++ [p]) : ∃ m, m < n ∧ ChainAt xs p0 m (acc ++ [p]) q := by
  obtain ⟨m, rfl, hu⟩ := h.room_pos hq
  have hm' : q ∉ p :: acc.reverse := by simp at hm ⊢; exact ⟨hm.2, hm.1⟩
  refine ⟨m, Nat.lt_succ_self _, by simpa using hm', by simpa using hu, ?_⟩
  rw [h.all]
  simp only [chainF, hq]
  rw [if_neg hm']
  simp
theorem askedL_len (xs : List Ent) (p : Int) : (askedL xs p).1.length ≤ xs.length + 1 := by
  have : ∀ n met p, (chainF (nxK xs) n met p).1.length ≤ n + 1 := by
    intro n
    induction n with
    | zero => intro met p; simp [chainF]
    | succ n ih =>
      intro met p
      simp only [chainF]
      cases nxK xs p with
      | none => simp
      | some q =>
        simp only []
        split
        · simp
        · have := ih (p :: met) q; simp; omega
  exact this _ _ _
theorem ChainAt.len {xs : List Ent} {p0 p : Int} {n : Nat} {acc : List Int} (h : ChainAt xs p0 n acc p) : acc.length ≤ xs.length := by
  have h1 := askedL_len xs p0
  rw [h.all] at h1
  have h2 : 1 ≤ (chainF (nxK xs) n acc.reverse p).1.length := by
    cases n with
    | zero => simp [chainF]
    | succ n =>
      simp only [chainF]
      cases nxK xs p with
      | none => simp
      | some q => simp only []; split <;> simp
  simp at h1
  omega
theorem errO_ok {l : List Ent} {person day time : Int} (h : errO l person day time = 0) : errS l day time = 0 ∧ 0 ≤ person ∧ person ≤ 1048576 := by
  unfold errO at h
  split at h
  · rename_i h1; exact absurd h h1
  · rename_i h1
    split at h
    · cases h
    · rename_i h2; exact ⟨by simpa using h1, by omega, by omega⟩
theorem stand_small {l : List Ent} {day time : Int} (h : errS l day time = 0) : l.length ≤ 1024 := by
  have hc : checkL l = 0 := by
    unfold errS at h
    split at h
    · rename_i h1; exact absurd h h1
    · rename_i h1; simpa using h1
  exact (checkL_ok hc).1
theorem lastK_b {xs : List Ent} {p : Int} {e : Ent} (hv : ∀ y ∈ xs, validE y = true) (h : lastK 2 p xs = some e) : 0 ≤ e.b ∧ e.b ≤ 1048576 := by
  obtain ⟨h1, h2, _⟩ := lastK_some h
  have := hv e h1
  simp only [validE, fitsB, idB, h2] at this
  grind
end Go.Proofs.Ytfmefdeldgmhpaa

