import Derived.Test.YtfmefdeldgmhpaaRO9
import Derived.Test.YtfmefdeldgmhpaaRO10
import Derived.Test.YtfmefdeldgmhpaaRO6
namespace Go.Proofs.Ytfmefdeldgmhpaa
set_option linter.unusedSimpArgs false
set_option linter.unusedVariables false
open Go.ChangeShapes Go.WideShapes Go.ChangeAt Go.RowKit
def u8D (x : Nat) : List D := [.c (.int .u8 x)]
theorem u8D_len (x : Nat) : (dV (u8D x)).length = 1 := rfl
theorem u8D_take (x : Nat) : (dV (u8D x)).take 1 = dV (u8D x) := rfl
theorem u8D_ln (x : Nat) : (u8D x).length = 1 := rfl
theorem u8D_hd (x : Nat) : (dV (u8D x)).head? = some (.d (.c (.int .u8 x))) := rfl
theorem u8D_ic (x : Nat) : (dV (u8D x)).length = 1 := rfl
set_option linter.defProp false in
def u8D_B := And.intro @u8D_len (And.intro @u8D_take (And.intro @u8D_hd (And.intro @u8D_ln @u8D_ic)))
set_option maxRecDepth 100000
set_option maxHeartbeats 4000000
theorem snocR (L : List Ent) (x : Ent) : (L.map entD).map dV ++ [dV (entD x)] = ((L ++ [x]).map entD).map dV := by simp
theorem row_getE (L : List Ent) (j : Nat) : ((L.map entD).map dV).getD j (dV (entD default)) = dV (entD (L.getD j default)) := by
  simp only [List.getD_eq_getElem?_getD, List.getElem?_map]
  cases L[j]? <;> rfl
theorem row_setE (L : List Ent) (s : Nat) (t : Ent) : ((L.map entD).map dV).set s (dV (entD t)) = ((L.set s t).map entD).map dV := by
  rw [List.map_set, List.map_set]
theorem entD_drop (x : Ent) : List.drop 8 (dV (entD x)) = [] := rfl
theorem subVs_rowE (ρ : Ren) (es : List Ent) : subVs ρ ((es.map entD).map dV).flatten ((es.map entD).map dV).flatten := by
  rw [flat_dV]; exact subVs_d _ _
theorem swap_row (L : List Ent) (i k : Nat) : (L.set i (L.getD k default)).set k (L.getD i default) = swapE L i k := rfl
theorem pick_some {p i n : Nat} (h : i < n) (hn : n ≤ 1000000) (hp : p < 256) : IntKind.i64.wrap ((i : Int) + (IntKind.i64.wrap (p : Int)).tmod (IntKind.i64.wrap ((n : Int) - (i : Int)))) = ((i + p % (n - i) : Nat) : Int) := by
  have h1 := Nat.mod_lt p (show n - i > 0 by omega)
  have h2 := Nat.mod_le p (n - i)
  rw [av_w (n := (p : Int)) (by omega), av_w (n := (n : Int) - i) (by omega), show (n : Int) - i = ((n - i : Nat) : Int) by omega, Int.tmod_eq_emod_of_nonneg (by omega), ← Int.natCast_emod, av_w (by omega)]
  omega
theorem foldE_append : ∀ (l m acc : List Ent), foldE acc (l ++ m) = (foldE acc l).bind fun a => foldE a m
  | [], m, acc => rfl
  | x :: l, m, acc => by
    rw [List.cons_append, foldE, foldE]
    split
    · exact foldE_append l m _
    · rfl
def accE (l : List Ent) (k : Nat) : List Ent := (foldE [] (l.take k)).getD []
theorem accE_succ {l : List Ent} {k : Nat} (hk : k < l.length) (h : foldE [] (l.take k) = some (accE l k)) : foldE [] (l.take (k + 1)) = if errA (accE l k) (l.getD k default) = 0 then some (addL (accE l k) (l.getD k default)) else none := by
  have e : l.getD k default = l[k] := by simp [List.getD, hk]
  rw [List.take_succ_eq_append_getElem hk, foldE_append, h, e]
  show foldE _ [l[k]] = _
  rw [foldE]
  rfl
theorem accE_none {l : List Ent} {k : Nat} (hk : k < l.length) (h : foldE [] (l.take k) = some (accE l k)) (he : errA (accE l k) (l.getD k default) ≠ 0) : foldE [] l = none := by
  have h1 := accE_succ hk h
  rw [if_neg he] at h1
  rw [← List.take_append_drop (k + 1) l, foldE_append, h1]
  rfl
theorem accE_ok {l : List Ent} {k : Nat} (hk : ∀ x ∈ l, OkE x) (h : foldE [] (l.take k) = some (accE l k)) : (accE l k).length ≤ l.length ∧ ∀ x ∈ accE l k, OkE x := by
  obtain ⟨_, hp⟩ := foldE_res check_nil h
  rw [List.append_nil] at hp
  refine ⟨?_, fun x hx => hk x (List.mem_of_mem_take (hp.mem_iff.1 hx))⟩
  rw [hp.length_eq, List.length_take]; omega
theorem radded_spec (l : List Ent) (hl : l.length ≤ 24) (ho : ∀ x ∈ l, OkE x) : Spec Try.prog 34 [aEs l] (.rt [aEs ((foldE [] l).getD []), aB (foldE [] l).isSome]) := by
  refine spec_of T_ok Try.func34 (by dsimp only [Try.f34]) rfl rfl (by simp) fun w F => ?_
  repeat' (first
    | (with_reducible refine aw_seq ?_)
    | ((with_reducible refine twoG_intro ?_ ?_) <;> intro hTw <;> first | (exact Bool.noConfusion hTw) | ((try simp only [hTw, Bool.not_true, Bool.not_false, Bool.true_and, Bool.false_and, Bool.and_true, Bool.and_false, Bool.true_or, Bool.false_or, Bool.or_true, Bool.or_false]); (first | (guard_hyp hTw : true = true; clear hTw) | (guard_hyp hTw : false = false; clear hTw) | (revert hTw; intro _))))
    | ((with_reducible refine two_intro ?_ ?_) <;> intro hTw <;> first | (exact Bool.noConfusion hTw) | ((first | (guard_hyp hTw : true = true; clear hTw) | (guard_hyp hTw : false = false; clear hTw) | (revert hTw; intro _))))
    | ((with_reducible refine And.intro ?_ ?_); (focus (first | omega | rfl | decide | grind)))
    | (with_reducible refine aw_block ?_)
    | (with_reducible refine aw_scope ?_)
    | ((first
        | ((with_reducible refine aw_regionA T_ok ?_ ?_); (focus kernel_rfl))
        | ((with_reducible refine aw_drawnA T_ok ?_ ?_ ?_ ?_); (focus kernel_rfl); (focus kernel_rfl); (focus (decide +kernel)))
        | ((with_reducible refine aw_drawnF T_ok ?_ ?_ ?_ ?_); (focus kernel_rfl); (focus kernel_rfl); (focus (decide +kernel)))
        | (with_reducible refine aw_label ?_)
        | ((with_reducible refine aw_rfM ?_ ?_); (focus kernel_rfl))
        | (with_reducible refine aw_skip ?_)
        | (with_reducible refine aw_exit ?_)
        | ((with_reducible refine aw_condM ?_ ?_); (focus kernel_rfl))
        | (with_reducible refine aw_ret ?_)
      ); simp only [↓avP, avQ, if_true, if_false, forall_const, beq_self_eq_true, eq_self, ne_eq, implies_true, reduceIte, Nat.reduceEqDiff, Nat.reduceAdd, Nat.reduceSub, Int.reduceToNat, Nat.reduceLeDiff, Nat.reduceLT, reduceCtorEq, Int.reduceEq, retQ, retL, resV, RetV, RetOk, SubL, snocE, snocR, entD_B, u8D_B, row_getE, row_setE, entD_drop, List.append_nil, swap_row, ty_39, ty_3, ty_22, ty_4, ty_5, ty_48]; try simp (disch := omega) only [av_w, av_t1, av_tp, Int.toNat_natCast]))
  refine aw_loopI (fun k : Nat => ⟨[(2, vEs (accE l k)), (8, vEs l), (9, vI l.length), (10, vI k)], [], 0⟩) (fun k => k ≤ l.length ∧ foldE [] (l.take k) = some (accE l k)) (fun k => l.length - k) 0 ⟨Nat.zero_le _, rfl⟩ (wk_of [] rfl rfl ?_ ?_) ?_
  · simp only [wkT, wkB, wkB1, subV, subVs, subD, subB, lkN_n, lkN_c, lkT_n, lkT_c, lkB_n, lkB_c, if_true, if_false, reduceIte, Nat.reduceEqDiff, true_and, and_true, and_self, inT, ofA]
    (repeat' (first | exact trivial | rfl | exact rfl | exact subVs_d _ _ | exact subVs_dm _ _ | exact subD_refl _ | refine And.intro ?_ ?_))
  · simp only [wkT, wkB, wkB1, subV, subVs, subD, subB, lkN_n, lkN_c, lkT_n, lkT_c, lkB_n, lkB_c, if_true, if_false, reduceIte, Nat.reduceEqDiff, true_and, and_true, and_self, inT, ofA]
    (repeat' (first | exact trivial | rfl | exact rfl | exact subVs_d _ _ | exact subVs_dm _ _ | exact subD_refl _ | refine And.intro ?_ ?_))
  intro k ⟨hk, hf⟩
  rcases Nat.lt_or_ge k l.length with hlt | hge
  · have hd := ltd hlt
    obtain ⟨ha1, ha2⟩ := accE_ok ho hf
    have hx : OkE (l.getD k default) := ho _ (by rw [List.getD, List.getElem?_eq_getElem hlt]; simp)
    have hA := gadd_spec (accE l k) (l.getD k default) (by omega) (okE_kind ha2) hx.kind
    by_cases he : errA (accE l k) (l.getD k default) = 0
    · have hs := accE_succ hlt hf
      rw [if_pos he] at hs
      have hs2 : accE l (k + 1) = addL (accE l k) (l.getD k default) := by rw [accE, hs]; rfl
      rw [he, ← hs2] at hA
      repeat' (first
        | (with_reducible refine aw_seq ?_)
        | ((with_reducible refine twoG_intro ?_ ?_) <;> intro hTw <;> first | (exact Bool.noConfusion hTw) | ((try simp only [hTw, Bool.not_true, Bool.not_false, Bool.true_and, Bool.false_and, Bool.and_true, Bool.and_false, Bool.true_or, Bool.false_or, Bool.or_true, Bool.or_false]); (first | (guard_hyp hTw : true = true; clear hTw) | (guard_hyp hTw : false = false; clear hTw) | (revert hTw; intro _))))
        | ((with_reducible refine two_intro ?_ ?_) <;> intro hTw <;> first | (exact Bool.noConfusion hTw) | ((first | (guard_hyp hTw : true = true; clear hTw) | (guard_hyp hTw : false = false; clear hTw) | (revert hTw; intro _))))
        | ((with_reducible refine And.intro ?_ ?_); (focus (first | omega | rfl | decide | grind)))
        | (with_reducible refine aw_block ?_)
        | (with_reducible refine aw_scope ?_)
        | ((first
            | ((with_reducible refine aw_regionA T_ok ?_ ?_); (focus kernel_rfl))
            | ((with_reducible refine aw_drawnA T_ok ?_ ?_ ?_ ?_); (focus kernel_rfl); (focus kernel_rfl); (focus (decide +kernel)))
            | ((with_reducible refine aw_drawnF T_ok ?_ ?_ ?_ ?_); (focus kernel_rfl); (focus kernel_rfl); (focus (decide +kernel)))
            | ((with_reducible refine callK_intro (hA) (by with_unfolding_all rfl) ?_ ?_); (focus kernel_rfl))
            | ((with_reducible refine callI_spec (hA) (by with_unfolding_all rfl) ?_ ?_ ?_); (focus kernel_rfl); (focus kernel_rfl))
            | (with_reducible refine aw_label ?_)
            | ((with_reducible refine aw_rfM ?_ ?_); (focus kernel_rfl))
            | (with_reducible refine aw_skip ?_)
            | (with_reducible refine aw_exit ?_)
            | ((with_reducible refine aw_condM ?_ ?_); (focus kernel_rfl))
            | (with_reducible refine aw_ret ?_)
          ); simp only [↓avP, avQ, if_true, if_false, forall_const, beq_self_eq_true, eq_self, ne_eq, implies_true, reduceIte, Nat.reduceEqDiff, Nat.reduceAdd, Nat.reduceSub, Int.reduceToNat, Nat.reduceLeDiff, Nat.reduceLT, reduceCtorEq, Int.reduceEq, retQ, retL, resV, RetV, RetOk, SubL, snocE, snocR, entD_B, u8D_B, row_getE, row_setE, entD_drop, List.append_nil, swap_row, ty_39, ty_3, ty_22, ty_4, ty_5, ty_48, hd]; try simp (disch := omega) only [av_w, av_t1, av_tp, Int.toNat_natCast]))
      refine ⟨k + 1, ⟨by omega, by rw [hs, hs2]⟩, by dsimp only; omega, wk_of [] rfl rfl ?_ ?_⟩
      · simp only [wkT, wkB, wkB1, subV, subVs, subD, subB, lkN_n, lkN_c, lkT_n, lkT_c, lkB_n, lkB_c, if_true, if_false, reduceIte, Nat.reduceEqDiff, true_and, and_true, and_self, inT, ofA]
        (repeat' (first | exact trivial | rfl | exact rfl | exact subVs_d _ _ | exact subVs_dm _ _ | exact subD_refl _ | refine And.intro ?_ ?_))
      · simp only [wkT, wkB, wkB1, subV, subVs, subD, subB, lkN_n, lkN_c, lkT_n, lkT_c, lkB_n, lkB_c, if_true, if_false, reduceIte, Nat.reduceEqDiff, true_and, and_true, and_self, inT, ofA]
        (repeat' (first | exact trivial | rfl | exact rfl | exact subVs_d _ _ | exact subVs_dm _ _ | exact subD_refl _ | refine And.intro ?_ ?_))
    · have hn := accE_none hlt hf he
      have hd2 : (errA (accE l k) (l.getD k default) != 0) = true := by simpa using he
      rw [hn]
      obtain ⟨a, hae⟩ : ∃ a, a = addL (accE l k) (l.getD k default) := ⟨_, rfl⟩
      rw [← hae] at hA
      repeat' (first
        | (with_reducible refine aw_seq ?_)
        | ((with_reducible refine twoG_intro ?_ ?_) <;> intro hTw <;> first | (exact Bool.noConfusion hTw) | ((try simp only [hTw, Bool.not_true, Bool.not_false, Bool.true_and, Bool.false_and, Bool.and_true, Bool.and_false, Bool.true_or, Bool.false_or, Bool.or_true, Bool.or_false]); (first | (guard_hyp hTw : true = true; clear hTw) | (guard_hyp hTw : false = false; clear hTw) | (revert hTw; intro _))))
        | ((with_reducible refine two_intro ?_ ?_) <;> intro hTw <;> first | (exact Bool.noConfusion hTw) | ((first | (guard_hyp hTw : true = true; clear hTw) | (guard_hyp hTw : false = false; clear hTw) | (revert hTw; intro _))))
        | ((with_reducible refine And.intro ?_ ?_); (focus (first | omega | rfl | decide | grind)))
        | (with_reducible refine aw_block ?_)
        | (with_reducible refine aw_scope ?_)
        | ((first
            | ((with_reducible refine aw_regionA T_ok ?_ ?_); (focus kernel_rfl))
            | ((with_reducible refine aw_drawnA T_ok ?_ ?_ ?_ ?_); (focus kernel_rfl); (focus kernel_rfl); (focus (decide +kernel)))
            | ((with_reducible refine aw_drawnF T_ok ?_ ?_ ?_ ?_); (focus kernel_rfl); (focus kernel_rfl); (focus (decide +kernel)))
            | ((with_reducible refine callK_intro (hA) (by with_unfolding_all rfl) ?_ ?_); (focus kernel_rfl))
            | ((with_reducible refine callI_spec (hA) (by with_unfolding_all rfl) ?_ ?_ ?_); (focus kernel_rfl); (focus kernel_rfl))
            | (with_reducible refine aw_label ?_)
            | ((with_reducible refine aw_rfM ?_ ?_); (focus kernel_rfl))
            | (with_reducible refine aw_skip ?_)
            | (with_reducible refine aw_exit ?_)
            | ((with_reducible refine aw_condM ?_ ?_); (focus kernel_rfl))
            | (with_reducible refine aw_ret ?_)
          ); simp only [↓avP, avQ, if_true, if_false, forall_const, beq_self_eq_true, eq_self, ne_eq, implies_true, reduceIte, Nat.reduceEqDiff, Nat.reduceAdd, Nat.reduceSub, Int.reduceToNat, Nat.reduceLeDiff, Nat.reduceLT, reduceCtorEq, Int.reduceEq, retQ, retL, resV, RetV, RetOk, SubL, snocE, snocR, entD_B, u8D_B, row_getE, row_setE, entD_drop, List.append_nil, swap_row, ty_39, ty_3, ty_22, ty_4, ty_5, ty_48, hd, hd2]; try simp (disch := omega) only [av_w, av_t1, av_tp, Int.toNat_natCast]))
      all_goals (repeat' (first | exact Sub.refl _ | exact Sub.nil _ _ | exact trivial | refine And.intro ?_ ?_))
  obtain rfl : k = l.length := by omega
  have hd := ged (Nat.le_refl l.length)
  rw [List.take_length] at hf
  rw [hf]
  repeat' (first
    | (with_reducible refine aw_seq ?_)
    | ((with_reducible refine twoG_intro ?_ ?_) <;> intro hTw <;> first | (exact Bool.noConfusion hTw) | ((try simp only [hTw, Bool.not_true, Bool.not_false, Bool.true_and, Bool.false_and, Bool.and_true, Bool.and_false, Bool.true_or, Bool.false_or, Bool.or_true, Bool.or_false]); (first | (guard_hyp hTw : true = true; clear hTw) | (guard_hyp hTw : false = false; clear hTw) | (revert hTw; intro _))))
    | ((with_reducible refine two_intro ?_ ?_) <;> intro hTw <;> first | (exact Bool.noConfusion hTw) | ((first | (guard_hyp hTw : true = true; clear hTw) | (guard_hyp hTw : false = false; clear hTw) | (revert hTw; intro _))))
    | ((with_reducible refine And.intro ?_ ?_); (focus (first | omega | rfl | decide | grind)))
    | (with_reducible refine aw_block ?_)
    | (with_reducible refine aw_scope ?_)
    | ((first
        | ((with_reducible refine aw_regionA T_ok ?_ ?_); (focus kernel_rfl))
        | ((with_reducible refine aw_drawnA T_ok ?_ ?_ ?_ ?_); (focus kernel_rfl); (focus kernel_rfl); (focus (decide +kernel)))
        | ((with_reducible refine aw_drawnF T_ok ?_ ?_ ?_ ?_); (focus kernel_rfl); (focus kernel_rfl); (focus (decide +kernel)))
        | (with_reducible refine aw_label ?_)
        | ((with_reducible refine aw_rfM ?_ ?_); (focus kernel_rfl))
        | (with_reducible refine aw_skip ?_)
        | (with_reducible refine aw_exit ?_)
        | ((with_reducible refine aw_condM ?_ ?_); (focus kernel_rfl))
        | (with_reducible refine aw_ret ?_)
      ); simp only [↓avP, avQ, if_true, if_false, forall_const, beq_self_eq_true, eq_self, ne_eq, implies_true, reduceIte, Nat.reduceEqDiff, Nat.reduceAdd, Nat.reduceSub, Int.reduceToNat, Nat.reduceLeDiff, Nat.reduceLT, reduceCtorEq, Int.reduceEq, retQ, retL, resV, RetV, RetOk, SubL, snocE, snocR, entD_B, u8D_B, row_getE, row_setE, entD_drop, List.append_nil, swap_row, ty_39, ty_3, ty_22, ty_4, ty_5, ty_48, hd]; try simp (disch := omega) only [av_w, av_t1, av_tp, Int.toNat_natCast]))
  all_goals (repeat' (first | exact Sub.refl _ | exact Sub.nil _ _ | exact trivial | refine And.intro ?_ ?_))
def turnE (l : List Ent) (ps : List Nat) : Nat → List Ent
  | 0 => l
  | k + 1 => if k < l.length then swapE (turnE l ps k) k (k + ps.getD k 0 % (l.length - k)) else turnE l ps k
theorem turnE_perm (l : List Ent) (ps : List Nat) : ∀ k, (turnE l ps k).Perm l
  | 0 => List.Perm.refl _
  | k + 1 => by
    have ih := turnE_perm l ps k
    rw [turnE]
    split
    · rename_i h
      have := Nat.mod_lt (ps.getD k 0) (show l.length - k > 0 by omega)
      exact (swapE_perm (by rw [ih.length_eq]; omega) (by rw [ih.length_eq]; omega)).trans ih
    · exact ih
theorem law11_spec (l : List Ent) (ps : List Nat) (ho : l.length ≤ 140737488351232 ∧ ∀ x ∈ l, OkE x) (hp : ∀ p ∈ ps, p < 256) (hpl : ps.length ≤ 140737488351232) : Spec Try.prog 11 [aEs l, .one (.sl 1 (u8D 0) (ps.map u8D))] (.r1 (aB true)) := by
  obtain ⟨hl, hk'⟩ := ho
  refine spec_of T_ok Try.func11 (by dsimp only [Try.f11]) rfl rfl (by simp) fun w F => ?_
  by_cases hsz : l.length ≤ 24 ∧ ps.length ≤ 100
  rotate_left
  · have hd : (decide ((l.length : Int) > 24) || decide ((ps.length : Int) > 100)) = true := by
      rw [Bool.or_eq_true, decide_eq_true_eq, decide_eq_true_eq]; omega
    repeat' (first
      | (with_reducible refine aw_seq ?_)
      | ((with_reducible refine twoG_intro ?_ ?_) <;> intro hTw <;> first | (exact Bool.noConfusion hTw) | ((try simp only [hTw, Bool.not_true, Bool.not_false, Bool.true_and, Bool.false_and, Bool.and_true, Bool.and_false, Bool.true_or, Bool.false_or, Bool.or_true, Bool.or_false]); (first | (guard_hyp hTw : true = true; clear hTw) | (guard_hyp hTw : false = false; clear hTw) | (revert hTw; intro _))))
      | ((with_reducible refine two_intro ?_ ?_) <;> intro hTw <;> first | (exact Bool.noConfusion hTw) | ((first | (guard_hyp hTw : true = true; clear hTw) | (guard_hyp hTw : false = false; clear hTw) | (revert hTw; intro _))))
      | ((with_reducible refine And.intro ?_ ?_); (focus (first | omega | rfl | decide | grind)))
      | (with_reducible refine aw_block ?_)
      | (with_reducible refine aw_scope ?_)
      | ((first
          | ((with_reducible refine aw_regionA T_ok ?_ ?_); (focus kernel_rfl))
          | ((with_reducible refine aw_drawnA T_ok ?_ ?_ ?_ ?_); (focus kernel_rfl); (focus kernel_rfl); (focus (decide +kernel)))
          | ((with_reducible refine aw_drawnF T_ok ?_ ?_ ?_ ?_); (focus kernel_rfl); (focus kernel_rfl); (focus (decide +kernel)))
          | ((with_reducible refine callK_intro (rsane_spec) (by with_unfolding_all rfl) ?_ ?_); (focus kernel_rfl))
          | ((with_reducible refine callI_spec (rsane_spec) (by with_unfolding_all rfl) ?_ ?_ ?_); (focus kernel_rfl); (focus kernel_rfl))
          | (with_reducible refine aw_label ?_)
          | ((with_reducible refine aw_rfM ?_ ?_); (focus kernel_rfl))
          | (with_reducible refine aw_skip ?_)
          | (with_reducible refine aw_exit ?_)
          | ((with_reducible refine aw_condM ?_ ?_); (focus kernel_rfl))
          | (with_reducible refine aw_ret ?_)
        ); simp only [↓avP, avQ, if_true, if_false, forall_const, beq_self_eq_true, eq_self, ne_eq, implies_true, reduceIte, Nat.reduceEqDiff, Nat.reduceAdd, Nat.reduceSub, Int.reduceToNat, Nat.reduceLeDiff, Nat.reduceLT, reduceCtorEq, Int.reduceEq, retQ, retL, resV, RetV, RetOk, SubL, snocE, snocR, entD_B, u8D_B, row_getE, row_setE, entD_drop, List.append_nil, swap_row, ty_39, ty_3, ty_22, ty_4, ty_5, ty_48, hd]; try simp (disch := omega) only [av_w, av_t1, av_tp, Int.toNat_natCast]))
    exact Sub.refl _
  obtain ⟨s1, s2⟩ := hsz
  have g1 : decide ((l.length : Int) > 24) = false := decide_eq_false (by omega)
  have g2 : decide ((ps.length : Int) > 100) = false := decide_eq_false (by omega)
  have hpg : ∀ {j : Nat}, j < ps.length → ps.getD j 0 < 256 := fun {j} h => hp _ (by rw [List.getD, List.getElem?_eq_getElem h]; simp)
  repeat' (first
    | (with_reducible refine aw_seq ?_)
    | ((with_reducible refine twoG_intro ?_ ?_) <;> intro hTw <;> first | (exact Bool.noConfusion hTw) | ((try simp only [hTw, Bool.not_true, Bool.not_false, Bool.true_and, Bool.false_and, Bool.and_true, Bool.and_false, Bool.true_or, Bool.false_or, Bool.or_true, Bool.or_false]); (first | (guard_hyp hTw : true = true; clear hTw) | (guard_hyp hTw : false = false; clear hTw) | (revert hTw; intro _))))
    | ((with_reducible refine two_intro ?_ ?_) <;> intro hTw <;> first | (exact Bool.noConfusion hTw) | ((first | (guard_hyp hTw : true = true; clear hTw) | (guard_hyp hTw : false = false; clear hTw) | (revert hTw; intro _))))
    | ((with_reducible refine And.intro ?_ ?_); (focus (first | omega | rfl | decide | grind)))
    | (with_reducible refine aw_block ?_)
    | (with_reducible refine aw_scope ?_)
    | ((first
        | ((with_reducible refine aw_regionU (id := 5) 1 0 (dV (entD default)) T_ok ?_ ?_); (focus kernel_rfl); (dsimp only [List.take, List.drop, List.toList_toArray]))
        | ((with_reducible refine aw_regionA T_ok ?_ ?_); (focus kernel_rfl))
        | ((with_reducible refine aw_drawnA T_ok ?_ ?_ ?_ ?_); (focus kernel_rfl); (focus kernel_rfl); (focus (decide +kernel)))
        | ((with_reducible refine aw_drawnF T_ok ?_ ?_ ?_ ?_); (focus kernel_rfl); (focus kernel_rfl); (focus (decide +kernel)))
        | ((with_reducible refine callK_intro (rsane_spec) (by with_unfolding_all rfl) ?_ ?_); (focus kernel_rfl))
        | ((with_reducible refine callI_spec (rsane_spec) (by with_unfolding_all rfl) ?_ ?_ ?_); (focus kernel_rfl); (focus kernel_rfl))
        | (with_reducible refine aw_label ?_)
        | ((with_reducible refine aw_rfM ?_ ?_); (focus kernel_rfl))
        | (with_reducible refine aw_skip ?_)
        | (with_reducible refine aw_exit ?_)
        | ((with_reducible refine aw_condM ?_ ?_); (focus kernel_rfl))
        | (with_reducible refine aw_ret ?_)
      ); simp only [↓avP, avQ, if_true, if_false, forall_const, beq_self_eq_true, eq_self, ne_eq, implies_true, reduceIte, Nat.reduceEqDiff, Nat.reduceAdd, Nat.reduceSub, Int.reduceToNat, Nat.reduceLeDiff, Nat.reduceLT, reduceCtorEq, Int.reduceEq, untK.eq_def, untS, untV, retQ, retL, resV, RetV, RetOk, SubL, snocE, snocR, entD_B, u8D_B, row_getE, row_setE, entD_drop, List.append_nil, swap_row, ty_39, ty_3, ty_22, ty_4, ty_5, ty_48, g1, g2]; try simp (disch := omega) only [av_w, av_t1, av_tp, Int.toNat_natCast]))
  refine aw_loopI (fun k : Nat => ⟨[(0, vEs l), (5, .mo 0), (26, .d (.sl 1 (u8D 0) (ps.map u8D))), (27, vI ps.length), (28, vI k)], [(0, .row 39 8 (dV (entD default)) (((turnE l ps k).map entD).map dV))], 1⟩) (fun k => k ≤ ps.length) (fun k => ps.length - k) 0 (Nat.zero_le _) (wk_of [(0, some 1)] rfl rfl ?_ ?_) ?_
  · simp only [wkT, wkB, wkB1, subV, subVs, subD, subB, lkN_n, lkN_c, lkT_n, lkT_c, lkB_n, lkB_c, if_true, if_false, reduceIte, Nat.reduceEqDiff, true_and, and_true, and_self, inT, ofA]
    (repeat' (first | exact trivial | rfl | exact rfl | exact subVs_d _ _ | exact subVs_dm _ _ | exact subD_refl _ | refine And.intro ?_ ?_))
  · simp only [wkT, wkB, wkB1, subV, subVs, subD, subB, lkN_n, lkN_c, lkT_n, lkT_c, lkB_n, lkB_c, if_true, if_false, reduceIte, Nat.reduceEqDiff, true_and, and_true, and_self, inT, ofA]
    rw [show turnE l ps 0 = l from rfl]
    (repeat' (first | ((exact subVs_rowE _ _)) | exact trivial | rfl | exact rfl | exact subVs_d _ _ | exact subVs_dm _ _ | exact subD_refl _ | refine And.intro ?_ ?_))
  intro k hk
  have htl := (turnE_perm l ps k).length_eq
  have hts : turnE l ps (k + 1) = if k < l.length then swapE (turnE l ps k) k (k + ps.getD k 0 % (l.length - k)) else turnE l ps k := rfl
  rcases Nat.lt_or_ge k ps.length with hlt | hge
  · have hd := ltd hlt
    obtain ⟨M, hM⟩ : ∃ M, M = turnE l ps k := ⟨_, rfl⟩
    rw [← hM] at htl hts ⊢
    rcases Nat.lt_or_ge k l.length with hkl | hkl
    · have hd2 := ltd hkl
      have hpk := pick_some hkl (by omega) (hpg hlt)
      have hml := Nat.mod_lt (ps.getD k 0) (show l.length - k > 0 by omega)
      obtain ⟨q, hqe⟩ : ∃ q, q = k + ps.getD k 0 % (l.length - k) := ⟨_, rfl⟩
      rw [if_pos hkl] at hts
      rw [← hqe] at hpk hts
      have hql : q < l.length := by omega
      repeat' (first
        | (with_reducible refine aw_seq ?_)
        | ((with_reducible refine twoG_intro ?_ ?_) <;> intro hTw <;> first | (exact Bool.noConfusion hTw) | ((try simp only [hTw, Bool.not_true, Bool.not_false, Bool.true_and, Bool.false_and, Bool.and_true, Bool.and_false, Bool.true_or, Bool.false_or, Bool.or_true, Bool.or_false]); (first | (guard_hyp hTw : true = true; clear hTw) | (guard_hyp hTw : false = false; clear hTw) | (revert hTw; intro _))))
        | ((with_reducible refine two_intro ?_ ?_) <;> intro hTw <;> first | (exact Bool.noConfusion hTw) | ((first | (guard_hyp hTw : true = true; clear hTw) | (guard_hyp hTw : false = false; clear hTw) | (revert hTw; intro _))))
        | ((with_reducible refine And.intro ?_ ?_); (focus (first | omega | rfl | decide | grind)))
        | (with_reducible refine aw_block ?_)
        | (with_reducible refine aw_scope ?_)
        | ((first
            | ((with_reducible refine aw_regionA T_ok ?_ ?_); (focus kernel_rfl))
            | ((with_reducible refine aw_drawnL (id := 11) 13 0 [0,1,2,3,14] T_ok ?_ ?_ ?_ ?_ ?_); (focus kernel_rfl); (focus kernel_rfl); (focus (decide +kernel)); (focus kernel_rfl))
            | ((with_reducible refine aw_drawnA T_ok ?_ ?_ ?_ ?_); (focus kernel_rfl); (focus kernel_rfl); (focus (decide +kernel)))
            | ((with_reducible refine aw_drawnF T_ok ?_ ?_ ?_ ?_); (focus kernel_rfl); (focus kernel_rfl); (focus (decide +kernel)))
            | (with_reducible refine fin2_intro ?_)
            | (with_reducible refine aw_label ?_)
            | ((with_reducible refine aw_rfM ?_ ?_); (focus kernel_rfl))
            | (with_reducible refine aw_skip ?_)
            | (with_reducible refine aw_exit ?_)
            | ((with_reducible refine aw_condM ?_ ?_); (focus kernel_rfl))
            | (with_reducible refine aw_ret ?_)
          ); simp only [↓avP, avQ, if_true, if_false, forall_const, beq_self_eq_true, eq_self, ne_eq, implies_true, reduceIte, Nat.reduceEqDiff, Nat.reduceAdd, Nat.reduceSub, Int.reduceToNat, Nat.reduceLeDiff, Nat.reduceLT, reduceCtorEq, Int.reduceEq, ↓earlyR.eq_def, lateK.eq_def, tailX, Nat.reduceBEq, retQ, retL, resV, RetV, RetOk, SubL, snocE, snocR, entD_B, u8D_B, row_getE, row_setE, entD_drop, List.append_nil, swap_row, ty_39, ty_3, ty_22, ty_4, ty_5, ty_48, hd, hd2, htl, hpk]; try simp (disch := omega) only [av_w, av_t1, av_tp, Int.toNat_natCast]))
      refine ⟨k + 1, by omega, by dsimp only; omega, wk_of [(0, some 0)] rfl rfl ?_ ?_⟩
      · simp only [wkT, wkB, wkB1, subV, subVs, subD, subB, lkN_n, lkN_c, lkT_n, lkT_c, lkB_n, lkB_c, if_true, if_false, reduceIte, Nat.reduceEqDiff, true_and, and_true, and_self, inT, ofA]
        (repeat' (first | exact trivial | rfl | exact rfl | exact subVs_d _ _ | exact subVs_dm _ _ | exact subD_refl _ | refine And.intro ?_ ?_))
      · simp only [wkT, wkB, wkB1, subV, subVs, subD, subB, lkN_n, lkN_c, lkT_n, lkT_c, lkB_n, lkB_c, if_true, if_false, reduceIte, Nat.reduceEqDiff, true_and, and_true, and_self, inT, ofA]
        rw [hts]
        (repeat' (first | ((exact subVs_rowE _ _)) | exact trivial | rfl | exact rfl | exact subVs_d _ _ | exact subVs_dm _ _ | exact subD_refl _ | refine And.intro ?_ ?_))
    · have hd2 : decide ((k : Int) < (l.length : Int)) = false := ged hkl
      rw [if_neg (by omega)] at hts
      repeat' (first
        | (with_reducible refine aw_seq ?_)
        | ((with_reducible refine twoG_intro ?_ ?_) <;> intro hTw <;> first | (exact Bool.noConfusion hTw) | ((try simp only [hTw, Bool.not_true, Bool.not_false, Bool.true_and, Bool.false_and, Bool.and_true, Bool.and_false, Bool.true_or, Bool.false_or, Bool.or_true, Bool.or_false]); (first | (guard_hyp hTw : true = true; clear hTw) | (guard_hyp hTw : false = false; clear hTw) | (revert hTw; intro _))))
        | ((with_reducible refine two_intro ?_ ?_) <;> intro hTw <;> first | (exact Bool.noConfusion hTw) | ((first | (guard_hyp hTw : true = true; clear hTw) | (guard_hyp hTw : false = false; clear hTw) | (revert hTw; intro _))))
        | ((with_reducible refine And.intro ?_ ?_); (focus (first | omega | rfl | decide | grind)))
        | (with_reducible refine aw_block ?_)
        | (with_reducible refine aw_scope ?_)
        | ((first
            | ((with_reducible refine aw_regionA T_ok ?_ ?_); (focus kernel_rfl))
            | ((with_reducible refine aw_drawnA T_ok ?_ ?_ ?_ ?_); (focus kernel_rfl); (focus kernel_rfl); (focus (decide +kernel)))
            | ((with_reducible refine aw_drawnF T_ok ?_ ?_ ?_ ?_); (focus kernel_rfl); (focus kernel_rfl); (focus (decide +kernel)))
            | (with_reducible refine aw_label ?_)
            | ((with_reducible refine aw_rfM ?_ ?_); (focus kernel_rfl))
            | (with_reducible refine aw_skip ?_)
            | (with_reducible refine aw_exit ?_)
            | ((with_reducible refine aw_condM ?_ ?_); (focus kernel_rfl))
            | (with_reducible refine aw_ret ?_)
          ); simp only [↓avP, avQ, if_true, if_false, forall_const, beq_self_eq_true, eq_self, ne_eq, implies_true, reduceIte, Nat.reduceEqDiff, Nat.reduceAdd, Nat.reduceSub, Int.reduceToNat, Nat.reduceLeDiff, Nat.reduceLT, reduceCtorEq, Int.reduceEq, retQ, retL, resV, RetV, RetOk, SubL, snocE, snocR, entD_B, u8D_B, row_getE, row_setE, entD_drop, List.append_nil, swap_row, ty_39, ty_3, ty_22, ty_4, ty_5, ty_48, hd, hd2, htl]; try simp (disch := omega) only [av_w, av_t1, av_tp, Int.toNat_natCast]))
      refine ⟨k + 1, by omega, by dsimp only; omega, wk_of [(0, some 0)] rfl rfl ?_ ?_⟩
      · simp only [wkT, wkB, wkB1, subV, subVs, subD, subB, lkN_n, lkN_c, lkT_n, lkT_c, lkB_n, lkB_c, if_true, if_false, reduceIte, Nat.reduceEqDiff, true_and, and_true, and_self, inT, ofA]
        (repeat' (first | exact trivial | rfl | exact rfl | exact subVs_d _ _ | exact subVs_dm _ _ | exact subD_refl _ | refine And.intro ?_ ?_))
      · simp only [wkT, wkB, wkB1, subV, subVs, subD, subB, lkN_n, lkN_c, lkT_n, lkT_c, lkB_n, lkB_c, if_true, if_false, reduceIte, Nat.reduceEqDiff, true_and, and_true, and_self, inT, ofA]
        rw [hts]
        (repeat' (first | ((exact subVs_rowE _ _)) | exact trivial | rfl | exact rfl | exact subVs_d _ _ | exact subVs_dm _ _ | exact subD_refl _ | refine And.intro ?_ ?_))
  obtain rfl : k = ps.length := by omega
  have hd := ged (Nat.le_refl ps.length)
  have hpm := turnE_perm l ps ps.length
  have hA := radded_spec l s1 hk'
  have hT := radded_spec (turnE l ps ps.length) (by omega) (fun x hx => hk' x (hpm.mem_iff.1 hx))
  rw [foldE_turn hpm (by omega)] at hT
  obtain ⟨M, hM⟩ : ∃ M, M = turnE l ps ps.length := ⟨_, rfl⟩
  rw [← hM] at htl hT ⊢
  refine aw_frzD 0 (entD default) (M.map entD) rfl rfl ?_
  simp only [frzS, frzM, frzK, frz1, frz2, frz_dV, List.map_cons, List.map_nil, setB, reduceIte, Nat.reduceEqDiff]
  cases hr : foldE [] l with
  | none =>
    rw [hr] at hA hT
    have hS := esame_spec [] [] (by simp)
    have hC := gcheck_spec [] (by simp) (okE_kind fun x hx => (by cases hx))
    repeat' (first
      | (with_reducible refine aw_seq ?_)
      | ((with_reducible refine twoG_intro ?_ ?_) <;> intro hTw <;> first | (exact Bool.noConfusion hTw) | ((try simp only [hTw, Bool.not_true, Bool.not_false, Bool.true_and, Bool.false_and, Bool.and_true, Bool.and_false, Bool.true_or, Bool.false_or, Bool.or_true, Bool.or_false]); (first | (guard_hyp hTw : true = true; clear hTw) | (guard_hyp hTw : false = false; clear hTw) | (revert hTw; intro _))))
      | ((with_reducible refine two_intro ?_ ?_) <;> intro hTw <;> first | (exact Bool.noConfusion hTw) | ((first | (guard_hyp hTw : true = true; clear hTw) | (guard_hyp hTw : false = false; clear hTw) | (revert hTw; intro _))))
      | ((with_reducible refine And.intro ?_ ?_); (focus (first | omega | rfl | decide | grind)))
      | (with_reducible refine aw_block ?_)
      | (with_reducible refine aw_scope ?_)
      | ((first
          | ((with_reducible refine aw_regionA T_ok ?_ ?_); (focus kernel_rfl))
          | ((with_reducible refine aw_drawnA T_ok ?_ ?_ ?_ ?_); (focus kernel_rfl); (focus kernel_rfl); (focus (decide +kernel)))
          | ((with_reducible refine aw_drawnF T_ok ?_ ?_ ?_ ?_); (focus kernel_rfl); (focus kernel_rfl); (focus (decide +kernel)))
          | ((with_reducible refine callK_intro (hA) (by with_unfolding_all rfl) ?_ ?_); (focus kernel_rfl))
          | ((with_reducible refine callI_spec (hA) (by with_unfolding_all rfl) ?_ ?_ ?_); (focus kernel_rfl); (focus kernel_rfl))
          | ((with_reducible refine callK_intro (hT) (by with_unfolding_all rfl) ?_ ?_); (focus kernel_rfl))
          | ((with_reducible refine callI_spec (hT) (by with_unfolding_all rfl) ?_ ?_ ?_); (focus kernel_rfl); (focus kernel_rfl))
          | ((with_reducible refine callK_intro (hS) (by with_unfolding_all rfl) ?_ ?_); (focus kernel_rfl))
          | ((with_reducible refine callI_spec (hS) (by with_unfolding_all rfl) ?_ ?_ ?_); (focus kernel_rfl); (focus kernel_rfl))
          | ((with_reducible refine callK_intro (hC) (by with_unfolding_all rfl) ?_ ?_); (focus kernel_rfl))
          | ((with_reducible refine callI_spec (hC) (by with_unfolding_all rfl) ?_ ?_ ?_); (focus kernel_rfl); (focus kernel_rfl))
          | (with_reducible refine aw_label ?_)
          | ((with_reducible refine aw_rfM ?_ ?_); (focus kernel_rfl))
          | (with_reducible refine aw_skip ?_)
          | (with_reducible refine aw_exit ?_)
          | ((with_reducible refine aw_condM ?_ ?_); (focus kernel_rfl))
          | (with_reducible refine aw_ret ?_)
        ); simp only [↓avP, avQ, if_true, if_false, forall_const, beq_self_eq_true, eq_self, ne_eq, implies_true, reduceIte, Nat.reduceEqDiff, Nat.reduceAdd, Nat.reduceSub, Int.reduceToNat, Nat.reduceLeDiff, Nat.reduceLT, reduceCtorEq, Int.reduceEq, retQ, retL, resV, RetV, RetOk, SubL, snocE, snocR, entD_B, u8D_B, row_getE, row_setE, entD_drop, List.append_nil, swap_row, ty_39, ty_3, ty_22, ty_4, ty_5, ty_48, hd]; try simp (disch := omega) only [av_w, av_t1, av_tp, Int.toNat_natCast]))
    all_goals exact Sub.of_eq (congrArg aB (by simp))
  | some r =>
    rw [hr] at hA hT
    obtain ⟨c1, c2⟩ := foldE_res check_nil hr
    rw [List.append_nil] at c2
    have hrl := c2.length_eq
    have hS := esame_spec r r (by omega)
    have hC := gcheck_spec r (by omega) (okE_kind fun x hx => hk' x (c2.mem_iff.1 hx))
    rw [c1] at hC
    simp only [decide_true] at hS
    repeat' (first
      | (with_reducible refine aw_seq ?_)
      | ((with_reducible refine twoG_intro ?_ ?_) <;> intro hTw <;> first | (exact Bool.noConfusion hTw) | ((try simp only [hTw, Bool.not_true, Bool.not_false, Bool.true_and, Bool.false_and, Bool.and_true, Bool.and_false, Bool.true_or, Bool.false_or, Bool.or_true, Bool.or_false]); (first | (guard_hyp hTw : true = true; clear hTw) | (guard_hyp hTw : false = false; clear hTw) | (revert hTw; intro _))))
      | ((with_reducible refine two_intro ?_ ?_) <;> intro hTw <;> first | (exact Bool.noConfusion hTw) | ((first | (guard_hyp hTw : true = true; clear hTw) | (guard_hyp hTw : false = false; clear hTw) | (revert hTw; intro _))))
      | ((with_reducible refine And.intro ?_ ?_); (focus (first | omega | rfl | decide | grind)))
      | (with_reducible refine aw_block ?_)
      | (with_reducible refine aw_scope ?_)
      | ((first
          | ((with_reducible refine aw_regionA T_ok ?_ ?_); (focus kernel_rfl))
          | ((with_reducible refine aw_drawnA T_ok ?_ ?_ ?_ ?_); (focus kernel_rfl); (focus kernel_rfl); (focus (decide +kernel)))
          | ((with_reducible refine aw_drawnF T_ok ?_ ?_ ?_ ?_); (focus kernel_rfl); (focus kernel_rfl); (focus (decide +kernel)))
          | ((with_reducible refine callK_intro (hA) (by with_unfolding_all rfl) ?_ ?_); (focus kernel_rfl))
          | ((with_reducible refine callI_spec (hA) (by with_unfolding_all rfl) ?_ ?_ ?_); (focus kernel_rfl); (focus kernel_rfl))
          | ((with_reducible refine callK_intro (hT) (by with_unfolding_all rfl) ?_ ?_); (focus kernel_rfl))
          | ((with_reducible refine callI_spec (hT) (by with_unfolding_all rfl) ?_ ?_ ?_); (focus kernel_rfl); (focus kernel_rfl))
          | ((with_reducible refine callK_intro (hS) (by with_unfolding_all rfl) ?_ ?_); (focus kernel_rfl))
          | ((with_reducible refine callI_spec (hS) (by with_unfolding_all rfl) ?_ ?_ ?_); (focus kernel_rfl); (focus kernel_rfl))
          | ((with_reducible refine callK_intro (hC) (by with_unfolding_all rfl) ?_ ?_); (focus kernel_rfl))
          | ((with_reducible refine callI_spec (hC) (by with_unfolding_all rfl) ?_ ?_ ?_); (focus kernel_rfl); (focus kernel_rfl))
          | (with_reducible refine aw_label ?_)
          | ((with_reducible refine aw_rfM ?_ ?_); (focus kernel_rfl))
          | (with_reducible refine aw_skip ?_)
          | (with_reducible refine aw_exit ?_)
          | ((with_reducible refine aw_condM ?_ ?_); (focus kernel_rfl))
          | (with_reducible refine aw_ret ?_)
        ); simp only [↓avP, avQ, if_true, if_false, forall_const, beq_self_eq_true, eq_self, ne_eq, implies_true, reduceIte, Nat.reduceEqDiff, Nat.reduceAdd, Nat.reduceSub, Int.reduceToNat, Nat.reduceLeDiff, Nat.reduceLT, reduceCtorEq, Int.reduceEq, retQ, retL, resV, RetV, RetOk, SubL, snocE, snocR, entD_B, u8D_B, row_getE, row_setE, entD_drop, List.append_nil, swap_row, ty_39, ty_3, ty_22, ty_4, ty_5, ty_48, hd, hrl]; try simp (disch := omega) only [av_w, av_t1, av_tp, Int.toNat_natCast]))
    all_goals exact Sub.refl _
def u8I (x : Int) : List D := [.c (.int .u8 x)]
def OkBy (l : List Int) : Prop := l.length ≤ 140737488351232 ∧ ∀ x ∈ l, 0 ≤ x ∧ x ≤ 255
theorem wf_u8w {n : Int} (h : (Lit.int .u8 n).wf = true) : 0 ≤ n ∧ n ≤ 255 := by simpa [Lit.wf, IntKind.min, IntKind.max, IntKind.signed, IntKind.bits] using h
theorem opens_u81 : Opens Try.prog 5 (RE u8I (fun n => 0 ≤ n ∧ n ≤ 255)) :=
  ore_map (f := fun n : Int => n) (ore_int Try.underlying5) (by intro x; rfl) (fun x h => wf_u8w h)
theorem opens_bytes : Opens Try.prog 48 (RE (fun l : List Int => [.sl 1 (u8I 0) (l.map u8I)]) OkBy) :=
  ore_slice (sz := 1) (u8I 0) (by intro x; rfl) opens_u81 Try.underlying48 (by kernel_rfl) (by decide) (Nat.le_of_ble_eq_true (by kernel_rfl))
theorem rrow11 (l : List Ent) (m : List Int) (ho : l.length ≤ 140737488351232 ∧ ∀ x ∈ l, OkE x) (hm : OkBy m) : Spec Try.prog 11 [aEs l, .one (.sl 1 (u8I 0) (m.map u8I))] (.r1 (aB true)) := by
  have e : m.map u8I = (m.map Int.toNat).map u8D := by
    rw [List.map_map]
    refine List.map_congr_left fun x hx => ?_
    have := hm.2 x hx
    show [D.c (.int .u8 x)] = [D.c (.int .u8 ((x.toNat : Nat) : Int))]
    rw [Int.toNat_of_nonneg this.1]
  rw [e]
  refine law11_spec l _ ho (fun p hp => ?_) (by rw [List.length_map]; exact hm.1)
  obtain ⟨x, hx, rfl⟩ := List.mem_map.1 hp
  have := hm.2 x hx
  omega
end Go.Proofs.Ytfmefdeldgmhpaa


namespace Go.Proofs.Ytfmefdeldgmhpaa
set_option linter.unusedSimpArgs false
set_option linter.unusedVariables false
theorem Try.own : ownKnob Try.prog.godebug = none := by kernel_rfl
theorem Try.laidOut : laidOutB Try.prog = true := by kernel_rfl
end Go.Proofs.Ytfmefdeldgmhpaa

