import Derived.Test.YtncihbmehbiekaaRB7
import Derived.Test.YtncihbmehbiekaaRB12
import Derived.Test.YtncihbmehbiekaaRB13
namespace Go.Proofs.Ytncihbmehbiekaa
set_option linter.unusedSimpArgs false
set_option linter.unusedVariables false
open Go.RowKit
def u8D (x : Nat) : List D := [.c (.int .u8 x)]
theorem u8D_len (x : Nat) : (dV (u8D x)).length = 1 := rfl
theorem u8D_take (x : Nat) : (dV (u8D x)).take 1 = dV (u8D x) := rfl
theorem u8D_ln (x : Nat) : (u8D x).length = 1 := rfl
theorem u8D_hd (x : Nat) : (dV (u8D x)).head? = some (.d (.c (.int .u8 x))) := rfl
theorem u8D_ic (x : Nat) : (dV (u8D x)).length = 1 := rfl
set_option linter.defProp false in
def u8D_B := And.intro @u8D_len (And.intro @u8D_take (And.intro @u8D_hd (And.intro @u8D_ln @u8D_ic)))
set_option maxRecDepth 100000
set_option maxHeartbeats 4000000
theorem row_get (L : List Int) (j : Nat) : ((L.map intD).map dV).getD j (dV (intD 0)) = dV (intD (L.getD j 0)) := by
  simp only [List.getD_eq_getElem?_getD, List.getElem?_map]
  cases L[j]? <;> rfl
theorem row_set1 (L : List Int) (s : Nat) (t : Int) : ((L.map intD).map dV).set s [V.d (.c (.int .i64 t))] = ((L.set s t).map intD).map dV := by
  rw [List.map_set, List.map_set]
  rfl
theorem lotD_t1 (x : LotP) : List.take 1 (dV (lotD x)) = [V.d (.sl 1 (intD 0) (x.inn.map intD))] := rfl
theorem intD_drop (x : Int) : List.drop 1 (dV (intD x)) = [] := rfl
theorem snocW (L : List LotP) (x : LotP) : (L.map lotD).map dV ++ [dV (lotD x)] = ((L ++ [x]).map lotD).map dV := by simp
theorem subVs_row2 (ρ : Ren) (es : List LotP) : subVs ρ ((es.map lotD).map dV).flatten ((es.map lotD).map dV).flatten := subVs_row ρ (es.map lotD)
theorem rep_row (n : Nat) : List.replicate n (dV (zD (Value.int .i64 0))) = ((List.replicate n (0 : Int)).map intD).map dV := by
  rw [List.map_replicate, List.map_replicate]
  rfl
def fillI (n k : Nat) : List Int := (List.range n).map fun j : Nat => if j < k then (j : Int) else 0
theorem fillI_len (n k : Nat) : (fillI n k).length = n := by simp [fillI]
theorem fillI_zero (n : Nat) : List.replicate n (0 : Int) = fillI n 0 := by
  refine List.ext_getElem? fun i => ?_
  unfold fillI
  rw [List.getElem?_map, List.getElem?_replicate]
  by_cases h : i < n
  · rw [if_pos h, List.getElem?_range h]; simp
  · rw [if_neg h, List.getElem?_eq_none (by simpa using h)]; rfl
theorem fillI_all (n : Nat) : fillI n n = rngI n := by
  unfold fillI rngI
  refine List.map_congr_left fun j hj => ?_
  rw [if_pos (by simpa using hj)]
theorem fillI_succ (n k : Nat) : (fillI n k).set k (k : Int) = fillI n (k + 1) := by
  refine List.ext_getElem? fun i => ?_
  unfold fillI
  by_cases h : i = k
  · subst h
    by_cases hn : i < n
    · rw [List.getElem?_set_self (by simpa using hn), List.getElem?_map, List.getElem?_range hn]; simp
    · rw [List.getElem?_eq_none (by simpa using hn), List.getElem?_eq_none (by simpa using hn)]
  · rw [List.getElem?_set_ne (Ne.symm h), List.getElem?_map, List.getElem?_map]
    by_cases hn : i < n
    · rw [List.getElem?_range hn]
      simp only [Option.map_some]
      congr 1
      by_cases hk : i < k
      · rw [if_pos hk, if_pos (by omega)]
      · rw [if_neg hk, if_neg (by omega)]
    · rw [List.getElem?_eq_none (by simpa using hn)]; rfl
/-- the number that is picked -/
theorem pick_some {p i n : Nat} (h : i < n) (hn : n ≤ 1000000) (hp : p < 256) : IntKind.i64.wrap ((i : Int) + (IntKind.i64.wrap (p : Int)).tmod (IntKind.i64.wrap ((n : Int) - (i : Int)))) = ((i + p % (n - i) : Nat) : Int) := by
  have h1 := Nat.mod_lt p (show n - i > 0 by omega)
  have h2 := Nat.mod_le p (n - i)
  rw [av_w (n := (p : Int)) (by omega), av_w (n := (n : Int) - i) (by omega), show (n : Int) - i = ((n - i : Nat) : Int) by omega, Int.tmod_eq_emod_of_nonneg (by omega), ← Int.natCast_emod, av_w (by omega)]
  omega
theorem wway_spec (f : FlowP) (ps : List Nat) (hf : OkF f) (hc : checkF f = 0) (hp : ∀ p ∈ ps, p < 256) (hpl : ps.length ≤ 140737488351232) : Spec Try.prog 24 [.agg (flowD f), .one (.sl 1 (u8D 0) (ps.map u8D))] (.r1 (.agg (flowD (wayF f ps)))) := by
  refine spec_of T_ok Try.func24 (by dsimp only [Try.f24]) rfl rfl (by simp) fun w F => ?_
  obtain ⟨z1, z2, z3, z4, z5⟩ := checkF_zero hc
  have hfl := hf.l
  have hpg : ∀ {j : Nat}, j < ps.length → ps.getD j 0 < 256 := fun {j} h => hp _ (by rw [List.getD, List.getElem?_eq_getElem h]; simp)
  repeat' (first
    | (with_reducible refine aw_seq ?_)
    | ((with_reducible refine twoG_intro ?_ ?_) <;> intro hTw <;> first | (exact Bool.noConfusion hTw) | ((try simp only [hTw, Bool.not_true, Bool.not_false, Bool.true_and, Bool.false_and, Bool.and_true, Bool.and_false, Bool.true_or, Bool.false_or, Bool.or_true, Bool.or_false]); (first | (guard_hyp hTw : true = true; clear hTw) | (guard_hyp hTw : false = false; clear hTw) | (revert hTw; intro _))))
    | ((with_reducible refine two_intro ?_ ?_) <;> intro hTw <;> first | (exact Bool.noConfusion hTw) | ((first | (guard_hyp hTw : true = true; clear hTw) | (guard_hyp hTw : false = false; clear hTw) | (revert hTw; intro _))))
    | ((with_reducible refine And.intro ?_ ?_); (focus (first | omega | rfl | decide | grind)))
    | (with_reducible refine aw_block ?_)
    | (with_reducible refine aw_scope ?_)
    | ((first
        | ((with_reducible refine aw_regionA T_ok ?_ ?_); (focus kernel_rfl))
        | ((with_reducible refine aw_drawnA T_ok ?_ ?_ ?_ ?_); (focus kernel_rfl); (focus kernel_rfl); (focus (decide +kernel)))
        | ((with_reducible refine aw_drawnF T_ok ?_ ?_ ?_ ?_); (focus kernel_rfl); (focus kernel_rfl); (focus (decide +kernel)))
        | (with_reducible refine aw_label ?_)
        | ((with_reducible refine aw_rfM ?_ ?_); (focus kernel_rfl))
        | (with_reducible refine aw_skip ?_)
        | (with_reducible refine aw_exit ?_)
        | ((with_reducible refine aw_condM ?_ ?_); (focus kernel_rfl))
        | (with_reducible refine aw_ret ?_)
      ); simp only [↓avP, avQ, if_true, if_false, forall_const, beq_self_eq_true, eq_self, ne_eq, implies_true, reduceIte, Nat.reduceEqDiff, Nat.reduceAdd, Nat.reduceSub, Int.reduceToNat, Nat.reduceLeDiff, Nat.reduceLT, reduceCtorEq, Int.reduceEq, retQ, retL, resV, RetV, RetOk, SubL, intD_B, u8D_B, lotD_B, flowD_B, snocI, snocL, snocW, lotD_t1, row_get, row_set1, intD_drop, ty_3, ty_5, ty_42, ty_27, ty_4, ty_24, ty_40, ty_22, ty_31]; try simp (disch := omega) only [av_w, av_t1, av_tp, Int.toNat_natCast]))
  refine aw_nilC 2 1 40 3 (dV (lotD default)) rfl rfl ?_
  refine aw_loopI (fun k : Nat => ⟨[(1, .d (.sl 1 (u8D 0) (ps.map u8D))), (2, .ptr 0 0), (4, .ptr 1 0), (5, .ptr 2 0), (6, vI (atN f k)), (16, .d (.sl 3 (lotD default) (f.lots.map lotD))), (17, vI f.lots.length), (18, vI k)],
      [(3, .row 40 3 (dV (lotD default)) (((wayA f ps k).map lotD).map dV)), (2, .cells 24 [vI f.senders, .mo 3]), (1, .cells 24 [vI 0, .d (.c (.slice none 0 0))]), (0, .cells 24 (dV (flowD f)))], 4⟩)
    (fun k => k ≤ f.lots.length) (fun k => f.lots.length - k) 0 (Nat.zero_le _) (wk_of [(0, some 0), (1, some 1), (2, some 2), (3, some 3)] rfl rfl ?_ ?_) ?_
  · simp only [wkT, wkB, wkB1, subV, subVs, subD, subB, lkN_n, lkN_c, lkT_n, lkT_c, lkB_n, lkB_c, if_true, if_false, reduceIte, Nat.reduceEqDiff, true_and, and_true, and_self, inT, ofA]
    (repeat' (first | exact trivial | rfl | exact rfl | exact subVs_d _ _ | exact subVs_dm _ _ | exact subD_refl _ | refine And.intro ?_ ?_))
  · simp only [wkT, wkB, wkB1, subV, subVs, subD, subB, lkN_n, lkN_c, lkT_n, lkT_c, lkB_n, lkB_c, if_true, if_false, reduceIte, Nat.reduceEqDiff, true_and, and_true, and_self, inT, ofA]
    (repeat' (first | exact trivial | rfl | exact rfl | exact subVs_d _ _ | exact subVs_dm _ _ | exact subD_refl _ | refine And.intro ?_ ?_))
  intro k hk
  have has := wayA_succ f ps k
  have hal := wayA_len f ps k
  have han := atN_le f k hk
  have hat : atN f (k + 1) = atN f k + (if (f.lots.getD k default).known = true then 0 else (f.lots.getD k default).inn.length) := rfl
  obtain ⟨W, hW⟩ : ∃ W, W = wayA f ps k := ⟨_, rfl⟩
  rw [← hW] at has hal ⊢
  rcases Nat.lt_or_ge k f.lots.length with hlt | hge
  · have hd := ltd hlt
    have hb1 := befF_succ hlt
    have hb2 := befF_mono (f := f) (k := k + 1) (by omega)
    have hb3 := befF_mono (f := f) (k := k) (by omega)
    have hok := hf.at k
    obtain ⟨x, hx⟩ : ∃ x, x = f.lots.getD k default := ⟨_, rfl⟩
    obtain ⟨a, ha⟩ : ∃ a, a = atN f k := ⟨_, rfl⟩
    rw [← hx] at hb1 hok has hat
    rw [← ha] at has hat han ⊢
    cases hkn : x.known with
    | true =>
      rw [hkn, if_pos rfl] at hat
      rw [show wayL ps a x = x by rw [wayL, if_pos hkn]] at has
      repeat' (first
        | (with_reducible refine aw_seq ?_)
        | ((with_reducible refine twoG_intro ?_ ?_) <;> intro hTw <;> first | (exact Bool.noConfusion hTw) | ((try simp only [hTw, Bool.not_true, Bool.not_false, Bool.true_and, Bool.false_and, Bool.and_true, Bool.and_false, Bool.true_or, Bool.false_or, Bool.or_true, Bool.or_false]); (first | (guard_hyp hTw : true = true; clear hTw) | (guard_hyp hTw : false = false; clear hTw) | (revert hTw; intro _))))
        | ((with_reducible refine two_intro ?_ ?_) <;> intro hTw <;> first | (exact Bool.noConfusion hTw) | ((first | (guard_hyp hTw : true = true; clear hTw) | (guard_hyp hTw : false = false; clear hTw) | (revert hTw; intro _))))
        | ((with_reducible refine And.intro ?_ ?_); (focus (first | omega | rfl | decide | grind)))
        | (with_reducible refine aw_block ?_)
        | (with_reducible refine aw_scope ?_)
        | ((first
            | ((with_reducible refine aw_regionA T_ok ?_ ?_); (focus kernel_rfl))
            | ((with_reducible refine aw_drawnA T_ok ?_ ?_ ?_ ?_); (focus kernel_rfl); (focus kernel_rfl); (focus (decide +kernel)))
            | ((with_reducible refine aw_drawnF T_ok ?_ ?_ ?_ ?_); (focus kernel_rfl); (focus kernel_rfl); (focus (decide +kernel)))
            | (with_reducible refine aw_label ?_)
            | ((with_reducible refine aw_rfM ?_ ?_); (focus kernel_rfl))
            | (with_reducible refine aw_skip ?_)
            | (with_reducible refine aw_exit ?_)
            | ((with_reducible refine aw_condM ?_ ?_); (focus kernel_rfl))
            | (with_reducible refine aw_ret ?_)
          ); simp only [↓avP, avQ, if_true, if_false, forall_const, beq_self_eq_true, eq_self, ne_eq, implies_true, reduceIte, Nat.reduceEqDiff, Nat.reduceAdd, Nat.reduceSub, Int.reduceToNat, Nat.reduceLeDiff, Nat.reduceLT, reduceCtorEq, Int.reduceEq, retQ, retL, resV, RetV, RetOk, SubL, intD_B, u8D_B, lotD_B, flowD_B, snocI, snocL, snocW, lotD_t1, row_get, row_set1, intD_drop, ty_3, ty_5, ty_42, ty_27, ty_4, ty_24, ty_40, ty_22, ty_31, hd, ← hx, hkn]; try simp (disch := omega) only [av_w, av_t1, av_tp, Int.toNat_natCast]))
      refine ⟨k + 1, by omega, by dsimp only; omega, wk_of [(0, some 0), (1, some 1), (2, some 2), (3, some 6)] rfl rfl ?_ ?_⟩
      · simp only [wkT, wkB, wkB1, subV, subVs, subD, subB, lkN_n, lkN_c, lkT_n, lkT_c, lkB_n, lkB_c, if_true, if_false, reduceIte, Nat.reduceEqDiff, true_and, and_true, and_self, inT, ofA]
        rw [hat]
        (repeat' (first | exact trivial | rfl | exact rfl | exact subVs_d _ _ | exact subVs_dm _ _ | exact subD_refl _ | refine And.intro ?_ ?_))
      · simp only [wkT, wkB, wkB1, subV, subVs, subD, subB, lkN_n, lkN_c, lkT_n, lkT_c, lkB_n, lkB_c, if_true, if_false, reduceIte, Nat.reduceEqDiff, true_and, and_true, and_self, inT, ofA]
        rw [has]
        (repeat' (first | ((exact subVs_row2 _ _)) | exact trivial | rfl | exact rfl | exact subVs_d _ _ | exact subVs_dm _ _ | exact subD_refl _ | refine And.intro ?_ ?_))
    | false =>
      rw [hkn, if_neg (by simp)] at hat
      have hwl : wayL ps a x = ⟨x.inn, true, shufI ps a x.inn.length x.inn.length⟩ := by rw [wayL, if_neg (by rw [hkn]; simp)]
      obtain ⟨n, hn⟩ : ∃ n, n = x.inn.length := ⟨_, rfl⟩
      have hrep := rep_row n
      rw [fillI_zero] at hrep
      rw [← hn] at hwl hat hb1
      repeat' (first
        | (with_reducible refine aw_seq ?_)
        | ((with_reducible refine twoG_intro ?_ ?_) <;> intro hTw <;> first | (exact Bool.noConfusion hTw) | ((try simp only [hTw, Bool.not_true, Bool.not_false, Bool.true_and, Bool.false_and, Bool.and_true, Bool.and_false, Bool.true_or, Bool.false_or, Bool.or_true, Bool.or_false]); (first | (guard_hyp hTw : true = true; clear hTw) | (guard_hyp hTw : false = false; clear hTw) | (revert hTw; intro _))))
        | ((with_reducible refine two_intro ?_ ?_) <;> intro hTw <;> first | (exact Bool.noConfusion hTw) | ((first | (guard_hyp hTw : true = true; clear hTw) | (guard_hyp hTw : false = false; clear hTw) | (revert hTw; intro _))))
        | ((with_reducible refine And.intro ?_ ?_); (focus (first | omega | rfl | decide | grind)))
        | (with_reducible refine aw_block ?_)
        | (with_reducible refine aw_scope ?_)
        | ((first
            | ((with_reducible refine aw_regionA T_ok ?_ ?_); (focus kernel_rfl))
            | ((with_reducible refine aw_drawnT (id := 7) 5 4 T_ok ?_ ?_ ?_ ?_ ?_); (focus kernel_rfl); (focus kernel_rfl); (focus (decide +kernel)); (focus kernel_rfl))
            | ((with_reducible refine aw_drawnA T_ok ?_ ?_ ?_ ?_); (focus kernel_rfl); (focus kernel_rfl); (focus (decide +kernel)))
            | ((with_reducible refine aw_drawnF T_ok ?_ ?_ ?_ ?_); (focus kernel_rfl); (focus kernel_rfl); (focus (decide +kernel)))
            | (with_reducible refine fin2_intro ?_)
            | (with_reducible refine aw_label ?_)
            | ((with_reducible refine aw_rfM ?_ ?_); (focus kernel_rfl))
            | (with_reducible refine aw_skip ?_)
            | (with_reducible refine aw_exit ?_)
            | ((with_reducible refine aw_condM ?_ ?_); (focus kernel_rfl))
            | (with_reducible refine aw_ret ?_)
          ); simp only [↓avP, avQ, if_true, if_false, forall_const, beq_self_eq_true, eq_self, ne_eq, implies_true, reduceIte, Nat.reduceEqDiff, Nat.reduceAdd, Nat.reduceSub, Int.reduceToNat, Nat.reduceLeDiff, Nat.reduceLT, reduceCtorEq, Int.reduceEq, ↓earlyK.eq_def, tailX, Nat.reduceBEq, retQ, retL, resV, RetV, RetOk, SubL, intD_B, u8D_B, lotD_B, flowD_B, snocI, snocL, snocW, lotD_t1, row_get, row_set1, intD_drop, ty_3, ty_5, ty_42, ty_27, ty_4, ty_24, ty_40, ty_22, ty_31, hd, ← hx, hkn, ← hn, hrep]; try simp (disch := omega) only [av_w, av_t1, av_tp, Int.toNat_natCast]))
      refine aw_loopI (fun i : Nat => ⟨[(1, .d (.sl 1 (u8D 0) (ps.map u8D))), (2, .ptr 0 0), (4, .ptr 1 0), (5, .ptr 2 0), (6, vI a), (16, .d (.sl 3 (lotD default) (f.lots.map lotD))), (17, vI f.lots.length), (18, vI k), (8, .ptr 4 0), (33, vI n), (34, vI i)],
        [(5, .row 3 1 (dV (intD 0)) (((fillI n i).map intD).map dV)), (4, .cells 40 [.d (.sl 1 (intD 0) (x.inn.map intD)), vB true, .mo 5]), (3, .row 40 3 (dV (lotD default)) ((W.map lotD).map dV)), (2, .cells 24 [vI f.senders, .mo 3]), (1, .cells 24 [vI 0, .d (.c (.slice none 0 0))]), (0, .cells 24 (dV (flowD f)))], 6⟩)
        (fun i => i ≤ n) (fun i => n - i) 0 (Nat.zero_le _) (wk_of [(0, some 0), (1, some 1), (2, some 2), (3, some 3), (4, some 4), (5, some 8)] rfl rfl ?_ ?_) ?_
      · simp only [wkT, wkB, wkB1, subV, subVs, subD, subB, lkN_n, lkN_c, lkT_n, lkT_c, lkB_n, lkB_c, if_true, if_false, reduceIte, Nat.reduceEqDiff, true_and, and_true, and_self, inT, ofA]
        (repeat' (first | ((exact congrArg (fun n => D.c (Value.int IntKind.i64 n)) (by rw [fillI_len]))) | exact trivial | rfl | exact rfl | exact subVs_d _ _ | exact subVs_dm _ _ | exact subD_refl _ | refine And.intro ?_ ?_))
      · simp only [wkT, wkB, wkB1, subV, subVs, subD, subB, lkN_n, lkN_c, lkT_n, lkT_c, lkB_n, lkB_c, if_true, if_false, reduceIte, Nat.reduceEqDiff, true_and, and_true, and_self, inT, ofA]
        (repeat' (first | ((exact subVs_row _ _)) | ((exact subVs_row2 _ _)) | exact trivial | rfl | exact rfl | exact subVs_d _ _ | exact subVs_dm _ _ | exact subD_refl _ | refine And.intro ?_ ?_))
      intro i hi
      have hfl2 := fillI_len n i
      have hfs := fillI_succ n i
      obtain ⟨L, hL⟩ : ∃ L, L = fillI n i := ⟨_, rfl⟩
      rw [← hL] at hfl2 hfs ⊢
      rcases Nat.lt_or_ge i n with hil | hig
      · have hd2 := ltd hil
        repeat' (first
          | (with_reducible refine aw_seq ?_)
          | ((with_reducible refine twoG_intro ?_ ?_) <;> intro hTw <;> first | (exact Bool.noConfusion hTw) | ((try simp only [hTw, Bool.not_true, Bool.not_false, Bool.true_and, Bool.false_and, Bool.and_true, Bool.and_false, Bool.true_or, Bool.false_or, Bool.or_true, Bool.or_false]); (first | (guard_hyp hTw : true = true; clear hTw) | (guard_hyp hTw : false = false; clear hTw) | (revert hTw; intro _))))
          | ((with_reducible refine two_intro ?_ ?_) <;> intro hTw <;> first | (exact Bool.noConfusion hTw) | ((first | (guard_hyp hTw : true = true; clear hTw) | (guard_hyp hTw : false = false; clear hTw) | (revert hTw; intro _))))
          | ((with_reducible refine And.intro ?_ ?_); (focus (first | omega | rfl | decide | grind)))
          | (with_reducible refine aw_block ?_)
          | (with_reducible refine aw_scope ?_)
          | ((first
              | ((with_reducible refine aw_regionA T_ok ?_ ?_); (focus kernel_rfl))
              | ((with_reducible refine aw_drawnA T_ok ?_ ?_ ?_ ?_); (focus kernel_rfl); (focus kernel_rfl); (focus (decide +kernel)))
              | ((with_reducible refine aw_drawnF T_ok ?_ ?_ ?_ ?_); (focus kernel_rfl); (focus kernel_rfl); (focus (decide +kernel)))
              | (with_reducible refine aw_label ?_)
              | ((with_reducible refine aw_rfM ?_ ?_); (focus kernel_rfl))
              | (with_reducible refine aw_skip ?_)
              | (with_reducible refine aw_exit ?_)
              | ((with_reducible refine aw_condM ?_ ?_); (focus kernel_rfl))
              | (with_reducible refine aw_ret ?_)
            ); simp only [↓avP, avQ, if_true, if_false, forall_const, beq_self_eq_true, eq_self, ne_eq, implies_true, reduceIte, Nat.reduceEqDiff, Nat.reduceAdd, Nat.reduceSub, Int.reduceToNat, Nat.reduceLeDiff, Nat.reduceLT, reduceCtorEq, Int.reduceEq, retQ, retL, resV, RetV, RetOk, SubL, intD_B, u8D_B, lotD_B, flowD_B, snocI, snocL, snocW, lotD_t1, row_get, row_set1, intD_drop, ty_3, ty_5, ty_42, ty_27, ty_4, ty_24, ty_40, ty_22, ty_31, hd2]; try simp (disch := omega) only [av_w, av_t1, av_tp, Int.toNat_natCast]))
        refine ⟨i + 1, by omega, by dsimp only; omega, wk_of [(0, some 0), (1, some 1), (2, some 2), (3, some 3), (4, some 4), (5, some 5)] rfl rfl ?_ ?_⟩
        · simp only [wkT, wkB, wkB1, subV, subVs, subD, subB, lkN_n, lkN_c, lkT_n, lkT_c, lkB_n, lkB_c, if_true, if_false, reduceIte, Nat.reduceEqDiff, true_and, and_true, and_self, inT, ofA]
          (repeat' (first | exact trivial | rfl | exact rfl | exact subVs_d _ _ | exact subVs_dm _ _ | exact subD_refl _ | refine And.intro ?_ ?_))
        · simp only [wkT, wkB, wkB1, subV, subVs, subD, subB, lkN_n, lkN_c, lkT_n, lkT_c, lkB_n, lkB_c, if_true, if_false, reduceIte, Nat.reduceEqDiff, true_and, and_true, and_self, inT, ofA]
          rw [hfs]
          (repeat' (first | ((exact subVs_row _ _)) | ((exact subVs_row2 _ _)) | exact trivial | rfl | exact rfl | exact subVs_d _ _ | exact subVs_dm _ _ | exact subD_refl _ | refine And.intro ?_ ?_))
      obtain rfl : i = n := by omega
      rw [fillI_all] at hL
      have hd2 := ged (Nat.le_refl i)
      repeat' (first
        | (with_reducible refine aw_seq ?_)
        | ((with_reducible refine twoG_intro ?_ ?_) <;> intro hTw <;> first | (exact Bool.noConfusion hTw) | ((try simp only [hTw, Bool.not_true, Bool.not_false, Bool.true_and, Bool.false_and, Bool.and_true, Bool.and_false, Bool.true_or, Bool.false_or, Bool.or_true, Bool.or_false]); (first | (guard_hyp hTw : true = true; clear hTw) | (guard_hyp hTw : false = false; clear hTw) | (revert hTw; intro _))))
        | ((with_reducible refine two_intro ?_ ?_) <;> intro hTw <;> first | (exact Bool.noConfusion hTw) | ((first | (guard_hyp hTw : true = true; clear hTw) | (guard_hyp hTw : false = false; clear hTw) | (revert hTw; intro _))))
        | ((with_reducible refine And.intro ?_ ?_); (focus (first | omega | rfl | decide | grind)))
        | (with_reducible refine aw_block ?_)
        | (with_reducible refine aw_scope ?_)
        | ((first
            | ((with_reducible refine aw_regionA T_ok ?_ ?_); (focus kernel_rfl))
            | ((with_reducible refine aw_drawnA T_ok ?_ ?_ ?_ ?_); (focus kernel_rfl); (focus kernel_rfl); (focus (decide +kernel)))
            | ((with_reducible refine aw_drawnF T_ok ?_ ?_ ?_ ?_); (focus kernel_rfl); (focus kernel_rfl); (focus (decide +kernel)))
            | (with_reducible refine aw_label ?_)
            | ((with_reducible refine aw_rfM ?_ ?_); (focus kernel_rfl))
            | (with_reducible refine aw_skip ?_)
            | (with_reducible refine aw_exit ?_)
            | ((with_reducible refine aw_condM ?_ ?_); (focus kernel_rfl))
            | (with_reducible refine aw_ret ?_)
          ); simp only [↓avP, avQ, if_true, if_false, forall_const, beq_self_eq_true, eq_self, ne_eq, implies_true, reduceIte, Nat.reduceEqDiff, Nat.reduceAdd, Nat.reduceSub, Int.reduceToNat, Nat.reduceLeDiff, Nat.reduceLT, reduceCtorEq, Int.reduceEq, retQ, retL, resV, RetV, RetOk, SubL, intD_B, u8D_B, lotD_B, flowD_B, snocI, snocL, snocW, lotD_t1, row_get, row_set1, intD_drop, ty_3, ty_5, ty_42, ty_27, ty_4, ty_24, ty_40, ty_22, ty_31, hd2]; try simp (disch := omega) only [av_w, av_t1, av_tp, Int.toNat_natCast]))
      refine aw_loopI (fun j : Nat => ⟨[(1, .d (.sl 1 (u8D 0) (ps.map u8D))), (2, .ptr 0 0), (4, .ptr 1 0), (5, .ptr 2 0), (6, vI ((a + j : Nat) : Int)), (16, .d (.sl 3 (lotD default) (f.lots.map lotD))), (17, vI f.lots.length), (18, vI k), (8, .ptr 4 0), (45, vI i), (46, vI j)],
        [(5, .row 3 1 (dV (intD 0)) (((shufI ps a i j).map intD).map dV)), (4, .cells 40 [.d (.sl 1 (intD 0) (x.inn.map intD)), vB true, .mo 5]), (3, .row 40 3 (dV (lotD default)) ((W.map lotD).map dV)), (2, .cells 24 [vI f.senders, .mo 3]), (1, .cells 24 [vI 0, .d (.c (.slice none 0 0))]), (0, .cells 24 (dV (flowD f)))], 6⟩)
        (fun j => j ≤ i) (fun j => i - j) 0 (Nat.zero_le _) (wk_of [(0, some 0), (1, some 1), (2, some 2), (3, some 3), (4, some 4), (5, some 5)] rfl rfl ?_ ?_) ?_
      · simp only [wkT, wkB, wkB1, subV, subVs, subD, subB, lkN_n, lkN_c, lkT_n, lkT_c, lkB_n, lkB_c, if_true, if_false, reduceIte, Nat.reduceEqDiff, true_and, and_true, and_self, inT, ofA]
        (repeat' (first | ((exact congrArg (fun n => D.c (Value.int IntKind.i64 n)) (by omega))) | exact trivial | rfl | exact rfl | exact subVs_d _ _ | exact subVs_dm _ _ | exact subD_refl _ | refine And.intro ?_ ?_))
      · simp only [wkT, wkB, wkB1, subV, subVs, subD, subB, lkN_n, lkN_c, lkT_n, lkT_c, lkB_n, lkB_c, if_true, if_false, reduceIte, Nat.reduceEqDiff, true_and, and_true, and_self, inT, ofA]
        rw [show shufI ps a i 0 = L from hL.symm]
        (repeat' (first | ((exact subVs_row _ _)) | ((exact subVs_row2 _ _)) | exact trivial | rfl | exact rfl | exact subVs_d _ _ | exact subVs_dm _ _ | exact subD_refl _ | refine And.intro ?_ ?_))
      clear hfs hfl2 hL
      intro j hj
      have hsl := shufI_len ps a i j
      have hss : shufI ps a i (j + 1) = swapL (shufI ps a i j) j (pickN ps (a + j) j i) := rfl
      obtain ⟨M, hM⟩ : ∃ M, M = shufI ps a i j := ⟨_, rfl⟩
      rw [← hM] at hsl hss ⊢
      rcases Nat.lt_or_ge j i with hjl | hjg
      · have hd3 := ltd hjl
        rcases Nat.lt_or_ge (a + j) ps.length with hal2 | hal2
        · have hd4 := ltd hal2
          have hpk := pick_some hjl (by omega) (hpg hal2)
          have hml := Nat.mod_lt (ps.getD (a + j) 0) (show i - j > 0 by omega)
          have hq : pickN ps (a + j) j i = j + ps.getD (a + j) 0 % (i - j) := by rw [pickN, if_pos hal2]
          obtain ⟨q, hqe⟩ : ∃ q, q = j + ps.getD (a + j) 0 % (i - j) := ⟨_, rfl⟩
          rw [← hqe] at hpk hq
          rw [hq] at hss
          have hqi : q < i := by omega
          repeat' (first
            | (with_reducible refine aw_seq ?_)
            | ((with_reducible refine twoG_intro ?_ ?_) <;> intro hTw <;> first | (exact Bool.noConfusion hTw) | ((try simp only [hTw, Bool.not_true, Bool.not_false, Bool.true_and, Bool.false_and, Bool.and_true, Bool.and_false, Bool.true_or, Bool.false_or, Bool.or_true, Bool.or_false]); (first | (guard_hyp hTw : true = true; clear hTw) | (guard_hyp hTw : false = false; clear hTw) | (revert hTw; intro _))))
            | ((with_reducible refine two_intro ?_ ?_) <;> intro hTw <;> first | (exact Bool.noConfusion hTw) | ((first | (guard_hyp hTw : true = true; clear hTw) | (guard_hyp hTw : false = false; clear hTw) | (revert hTw; intro _))))
            | ((with_reducible refine And.intro ?_ ?_); (focus (first | omega | rfl | decide | grind)))
            | (with_reducible refine aw_block ?_)
            | (with_reducible refine aw_scope ?_)
            | ((first
                | ((with_reducible refine aw_regionA T_ok ?_ ?_); (focus kernel_rfl))
                | ((with_reducible refine aw_drawnL (id := 20) 17 5 [3,4,5,18] T_ok ?_ ?_ ?_ ?_ ?_); (focus kernel_rfl); (focus kernel_rfl); (focus (decide +kernel)); (focus kernel_rfl))
                | ((with_reducible refine aw_drawnA T_ok ?_ ?_ ?_ ?_); (focus kernel_rfl); (focus kernel_rfl); (focus (decide +kernel)))
                | ((with_reducible refine aw_drawnF T_ok ?_ ?_ ?_ ?_); (focus kernel_rfl); (focus kernel_rfl); (focus (decide +kernel)))
                | (with_reducible refine fin2_intro ?_)
                | (with_reducible refine aw_label ?_)
                | ((with_reducible refine aw_rfM ?_ ?_); (focus kernel_rfl))
                | (with_reducible refine aw_skip ?_)
                | (with_reducible refine aw_exit ?_)
                | ((with_reducible refine aw_condM ?_ ?_); (focus kernel_rfl))
                | (with_reducible refine aw_ret ?_)
              ); simp only [↓avP, avQ, if_true, if_false, forall_const, beq_self_eq_true, eq_self, ne_eq, implies_true, reduceIte, Nat.reduceEqDiff, Nat.reduceAdd, Nat.reduceSub, Int.reduceToNat, Nat.reduceLeDiff, Nat.reduceLT, reduceCtorEq, Int.reduceEq, ↓earlyR.eq_def, lateK.eq_def, tailX, Nat.reduceBEq, retQ, retL, resV, RetV, RetOk, SubL, intD_B, u8D_B, lotD_B, flowD_B, snocI, snocL, snocW, lotD_t1, row_get, row_set1, intD_drop, ty_3, ty_5, ty_42, ty_27, ty_4, ty_24, ty_40, ty_22, ty_31, hd3, hd4, hsl, hpk]; try simp (disch := omega) only [av_w, av_t1, av_tp, Int.toNat_natCast]))
          refine ⟨j + 1, by omega, by dsimp only; omega, wk_of [(0, some 0), (1, some 1), (2, some 2), (3, some 3), (4, some 4), (5, some 5)] rfl rfl ?_ ?_⟩
          · simp only [wkT, wkB, wkB1, subV, subVs, subD, subB, lkN_n, lkN_c, lkT_n, lkT_c, lkB_n, lkB_c, if_true, if_false, reduceIte, Nat.reduceEqDiff, true_and, and_true, and_self, inT, ofA]
            (repeat' (first | ((exact congrArg (fun n => D.c (Value.int IntKind.i64 n)) (by omega))) | exact trivial | rfl | exact rfl | exact subVs_d _ _ | exact subVs_dm _ _ | exact subD_refl _ | refine And.intro ?_ ?_))
          · simp only [wkT, wkB, wkB1, subV, subVs, subD, subB, lkN_n, lkN_c, lkT_n, lkT_c, lkB_n, lkB_c, if_true, if_false, reduceIte, Nat.reduceEqDiff, true_and, and_true, and_self, inT, ofA]
            rw [hss]
            (repeat' (first | ((exact subVs_row _ _)) | ((exact subVs_row2 _ _)) | exact trivial | rfl | exact rfl | exact subVs_d _ _ | exact subVs_dm _ _ | exact subD_refl _ | refine And.intro ?_ ?_))
        · have hd4 := ged hal2
          have hq : pickN ps (a + j) j i = j := by rw [pickN, if_neg (by omega)]; rfl
          rw [hq] at hss
          repeat' (first
            | (with_reducible refine aw_seq ?_)
            | ((with_reducible refine twoG_intro ?_ ?_) <;> intro hTw <;> first | (exact Bool.noConfusion hTw) | ((try simp only [hTw, Bool.not_true, Bool.not_false, Bool.true_and, Bool.false_and, Bool.and_true, Bool.and_false, Bool.true_or, Bool.false_or, Bool.or_true, Bool.or_false]); (first | (guard_hyp hTw : true = true; clear hTw) | (guard_hyp hTw : false = false; clear hTw) | (revert hTw; intro _))))
            | ((with_reducible refine two_intro ?_ ?_) <;> intro hTw <;> first | (exact Bool.noConfusion hTw) | ((first | (guard_hyp hTw : true = true; clear hTw) | (guard_hyp hTw : false = false; clear hTw) | (revert hTw; intro _))))
            | ((with_reducible refine And.intro ?_ ?_); (focus (first | omega | rfl | decide | grind)))
            | (with_reducible refine aw_block ?_)
            | (with_reducible refine aw_scope ?_)
            | ((first
                | ((with_reducible refine aw_regionA T_ok ?_ ?_); (focus kernel_rfl))
                | ((with_reducible refine aw_drawnL (id := 20) 17 5 [3,4,5,18] T_ok ?_ ?_ ?_ ?_ ?_); (focus kernel_rfl); (focus kernel_rfl); (focus (decide +kernel)); (focus kernel_rfl))
                | ((with_reducible refine aw_drawnA T_ok ?_ ?_ ?_ ?_); (focus kernel_rfl); (focus kernel_rfl); (focus (decide +kernel)))
                | ((with_reducible refine aw_drawnF T_ok ?_ ?_ ?_ ?_); (focus kernel_rfl); (focus kernel_rfl); (focus (decide +kernel)))
                | (with_reducible refine fin2_intro ?_)
                | (with_reducible refine aw_label ?_)
                | ((with_reducible refine aw_rfM ?_ ?_); (focus kernel_rfl))
                | (with_reducible refine aw_skip ?_)
                | (with_reducible refine aw_exit ?_)
                | ((with_reducible refine aw_condM ?_ ?_); (focus kernel_rfl))
                | (with_reducible refine aw_ret ?_)
              ); simp only [↓avP, avQ, if_true, if_false, forall_const, beq_self_eq_true, eq_self, ne_eq, implies_true, reduceIte, Nat.reduceEqDiff, Nat.reduceAdd, Nat.reduceSub, Int.reduceToNat, Nat.reduceLeDiff, Nat.reduceLT, reduceCtorEq, Int.reduceEq, ↓earlyR.eq_def, lateK.eq_def, tailX, Nat.reduceBEq, retQ, retL, resV, RetV, RetOk, SubL, intD_B, u8D_B, lotD_B, flowD_B, snocI, snocL, snocW, lotD_t1, row_get, row_set1, intD_drop, ty_3, ty_5, ty_42, ty_27, ty_4, ty_24, ty_40, ty_22, ty_31, hd3, hd4, hsl]; try simp (disch := omega) only [av_w, av_t1, av_tp, Int.toNat_natCast]))
          refine ⟨j + 1, by omega, by dsimp only; omega, wk_of [(0, some 0), (1, some 1), (2, some 2), (3, some 3), (4, some 4), (5, some 5)] rfl rfl ?_ ?_⟩
          · simp only [wkT, wkB, wkB1, subV, subVs, subD, subB, lkN_n, lkN_c, lkT_n, lkT_c, lkB_n, lkB_c, if_true, if_false, reduceIte, Nat.reduceEqDiff, true_and, and_true, and_self, inT, ofA]
            (repeat' (first | ((exact congrArg (fun n => D.c (Value.int IntKind.i64 n)) (by omega))) | exact trivial | rfl | exact rfl | exact subVs_d _ _ | exact subVs_dm _ _ | exact subD_refl _ | refine And.intro ?_ ?_))
          · simp only [wkT, wkB, wkB1, subV, subVs, subD, subB, lkN_n, lkN_c, lkT_n, lkT_c, lkB_n, lkB_c, if_true, if_false, reduceIte, Nat.reduceEqDiff, true_and, and_true, and_self, inT, ofA]
            rw [hss]
            (repeat' (first | ((exact subVs_row _ _)) | ((exact subVs_row2 _ _)) | exact trivial | rfl | exact rfl | exact subVs_d _ _ | exact subVs_dm _ _ | exact subD_refl _ | refine And.intro ?_ ?_))
      obtain rfl : j = i := by omega
      have hd3 := ged (Nat.le_refl j)
      refine aw_frzD 5 (intD 0) (M.map intD) rfl rfl ?_
      simp only [frzS, frzM, frzK, frz1, frz2, frz_dV, List.map_cons, List.map_nil, setB, reduceIte, Nat.reduceEqDiff]
      rw [← hM] at hwl
      rw [hwl] at has
      repeat' (first
        | (with_reducible refine aw_seq ?_)
        | ((with_reducible refine twoG_intro ?_ ?_) <;> intro hTw <;> first | (exact Bool.noConfusion hTw) | ((try simp only [hTw, Bool.not_true, Bool.not_false, Bool.true_and, Bool.false_and, Bool.and_true, Bool.and_false, Bool.true_or, Bool.false_or, Bool.or_true, Bool.or_false]); (first | (guard_hyp hTw : true = true; clear hTw) | (guard_hyp hTw : false = false; clear hTw) | (revert hTw; intro _))))
        | ((with_reducible refine two_intro ?_ ?_) <;> intro hTw <;> first | (exact Bool.noConfusion hTw) | ((first | (guard_hyp hTw : true = true; clear hTw) | (guard_hyp hTw : false = false; clear hTw) | (revert hTw; intro _))))
        | ((with_reducible refine And.intro ?_ ?_); (focus (first | omega | rfl | decide | grind)))
        | (with_reducible refine aw_block ?_)
        | (with_reducible refine aw_scope ?_)
        | ((first
            | ((with_reducible refine aw_regionA T_ok ?_ ?_); (focus kernel_rfl))
            | ((with_reducible refine aw_drawnA T_ok ?_ ?_ ?_ ?_); (focus kernel_rfl); (focus kernel_rfl); (focus (decide +kernel)))
            | ((with_reducible refine aw_drawnF T_ok ?_ ?_ ?_ ?_); (focus kernel_rfl); (focus kernel_rfl); (focus (decide +kernel)))
            | (with_reducible refine aw_label ?_)
            | ((with_reducible refine aw_rfM ?_ ?_); (focus kernel_rfl))
            | (with_reducible refine aw_skip ?_)
            | (with_reducible refine aw_exit ?_)
            | ((with_reducible refine aw_condM ?_ ?_); (focus kernel_rfl))
            | (with_reducible refine aw_ret ?_)
          ); simp only [↓avP, avQ, if_true, if_false, forall_const, beq_self_eq_true, eq_self, ne_eq, implies_true, reduceIte, Nat.reduceEqDiff, Nat.reduceAdd, Nat.reduceSub, Int.reduceToNat, Nat.reduceLeDiff, Nat.reduceLT, reduceCtorEq, Int.reduceEq, retQ, retL, resV, RetV, RetOk, SubL, intD_B, u8D_B, lotD_B, flowD_B, snocI, snocL, snocW, lotD_t1, row_get, row_set1, intD_drop, ty_3, ty_5, ty_42, ty_27, ty_4, ty_24, ty_40, ty_22, ty_31, hd3]; try simp (disch := omega) only [av_w, av_t1, av_tp, Int.toNat_natCast]))
      refine ⟨k + 1, by omega, by dsimp only; omega, wk_of [(0, some 0), (1, some 1), (2, some 2), (3, some 7)] rfl rfl ?_ ?_⟩
      · simp only [wkT, wkB, wkB1, subV, subVs, subD, subB, lkN_n, lkN_c, lkT_n, lkT_c, lkB_n, lkB_c, if_true, if_false, reduceIte, Nat.reduceEqDiff, true_and, and_true, and_self, inT, ofA]
        rw [hat]
        (repeat' (first | exact trivial | rfl | exact rfl | exact subVs_d _ _ | exact subVs_dm _ _ | exact subD_refl _ | refine And.intro ?_ ?_))
      · simp only [wkT, wkB, wkB1, subV, subVs, subD, subB, lkN_n, lkN_c, lkT_n, lkT_c, lkB_n, lkB_c, if_true, if_false, reduceIte, Nat.reduceEqDiff, true_and, and_true, and_self, inT, ofA]
        have e := snocW W ⟨x.inn, true, M⟩
        change _ ++ [[V.d (D.sl 1 (intD 0) (List.map intD x.inn)), V.d (D.c (Value.bool true)), V.d (D.sl 1 (intD 0) (List.map intD M))]] = _ at e
        rw [has, e]
        (repeat' (first | ((exact subVs_row2 _ _)) | exact trivial | rfl | exact rfl | exact subVs_d _ _ | exact subVs_dm _ _ | exact subD_refl _ | refine And.intro ?_ ?_))
  obtain rfl : k = f.lots.length := by omega
  have hd := ged (Nat.le_refl f.lots.length)
  refine aw_frzD 3 (lotD default) (W.map lotD) rfl rfl ?_
  simp only [frzS, frzM, frzK, frz1, frz2, frz_dV, List.map_cons, List.map_nil, setB, reduceIte, Nat.reduceEqDiff]
  repeat' (first
    | (with_reducible refine aw_seq ?_)
    | ((with_reducible refine twoG_intro ?_ ?_) <;> intro hTw <;> first | (exact Bool.noConfusion hTw) | ((try simp only [hTw, Bool.not_true, Bool.not_false, Bool.true_and, Bool.false_and, Bool.and_true, Bool.and_false, Bool.true_or, Bool.false_or, Bool.or_true, Bool.or_false]); (first | (guard_hyp hTw : true = true; clear hTw) | (guard_hyp hTw : false = false; clear hTw) | (revert hTw; intro _))))
    | ((with_reducible refine two_intro ?_ ?_) <;> intro hTw <;> first | (exact Bool.noConfusion hTw) | ((first | (guard_hyp hTw : true = true; clear hTw) | (guard_hyp hTw : false = false; clear hTw) | (revert hTw; intro _))))
    | ((with_reducible refine And.intro ?_ ?_); (focus (first | omega | rfl | decide | grind)))
    | (with_reducible refine aw_block ?_)
    | (with_reducible refine aw_scope ?_)
    | ((first
        | ((with_reducible refine aw_regionA T_ok ?_ ?_); (focus kernel_rfl))
        | ((with_reducible refine aw_drawnA T_ok ?_ ?_ ?_ ?_); (focus kernel_rfl); (focus kernel_rfl); (focus (decide +kernel)))
        | ((with_reducible refine aw_drawnF T_ok ?_ ?_ ?_ ?_); (focus kernel_rfl); (focus kernel_rfl); (focus (decide +kernel)))
        | (with_reducible refine aw_label ?_)
        | ((with_reducible refine aw_rfM ?_ ?_); (focus kernel_rfl))
        | (with_reducible refine aw_skip ?_)
        | (with_reducible refine aw_exit ?_)
        | ((with_reducible refine aw_condM ?_ ?_); (focus kernel_rfl))
        | (with_reducible refine aw_ret ?_)
      ); simp only [↓avP, avQ, if_true, if_false, forall_const, beq_self_eq_true, eq_self, ne_eq, implies_true, reduceIte, Nat.reduceEqDiff, Nat.reduceAdd, Nat.reduceSub, Int.reduceToNat, Nat.reduceLeDiff, Nat.reduceLT, reduceCtorEq, Int.reduceEq, retQ, retL, resV, RetV, RetOk, SubL, intD_B, u8D_B, lotD_B, flowD_B, snocI, snocL, snocW, lotD_t1, row_get, row_set1, intD_drop, ty_3, ty_5, ty_42, ty_27, ty_4, ty_24, ty_40, ty_22, ty_31, hd]; try simp (disch := omega) only [av_w, av_t1, av_tp, Int.toNat_natCast]))
  rw [hW]
  exact Sub.refl _
end Go.Proofs.Ytncihbmehbiekaa

