import Derived.Test.YthidfoohhhkobaaH22
import Derived.Test.YthidfoohhhkobaaH29
namespace Go.Proofs.Ythidfoohhhkobaa
set_option linter.unusedSimpArgs false
set_option linter.unusedVariables false
open Go.RowKit
set_option maxRecDepth 100000
set_option maxHeartbeats 4000000
def tK (n : Int) (l : List ActP) : Nat → List Hd
  | 0 => []
  | k + 1 => if doE (actsF n (l.take k)).1 (l.getD k default) = 0 ∧ (l.getD k default).kind = 1 then tK n l k ++ [(l.getD k default).hand] else tK n l k
theorem tK_len (n : Int) (l : List ActP) : ∀ k, (tK n l k).length ≤ k
  | 0 => Nat.le_refl _
  | k + 1 => by
    have := tK_len n l k
    rw [tK]
    split
    · rw [List.length_append]; simp; exact this
    · omega
theorem tK_mem {n : Int} (h1 : 1 ≤ n) (h4 : n ≤ 4) (l : List ActP) (hl : l.length ≤ 14) (ha : ∀ a ∈ l, hOk a.hand) : ∀ k, k ≤ l.length → ∀ x, x ∈ tK n l k ↔ x ∈ (actsF n (l.take k)).2
  | 0, _ => fun x => by rw [List.take_zero]; exact Iff.rfl
  | k + 1, hk => fun x => by
    have ih := tK_mem h1 h4 l hl ha k (by omega) x
    have hA := acts_inv h1 h4 l hl ha k (by omega)
    have hgl : l.getD k default = l[k] := by simp [List.getD_eq_getElem?_getD, List.getElem?_eq_getElem (show k < l.length by omega)]
    have hm : l.getD k default ∈ l := mem_getD (by omega)
    have hao := ha _ hm
    rw [tK, acts_step n l k (by omega), ← hgl]
    generalize l.getD k default = a at *
    unfold stepA
    by_cases h0 : doE (actsF n (l.take k)).1 a = 0
    · obtain ⟨a1, _⟩ := hA.inv.act (hA.sm (by omega)) hao h0
      rw [if_pos h0]
      by_cases hk1 : a.kind = 1
      · rw [if_pos ⟨h0, hk1⟩, if_pos hk1, mem_learn hA.inv.fT (a1 hk1), List.mem_append, ih]
        simp
      · rw [if_neg (fun h => hk1 h.2), if_neg hk1]; exact ih
    · rw [if_neg (fun h => h0 h.1), if_neg h0]; exact ih
theorem glawKnown_spec (u : Int) (l : List ActP) (hu : 0 ≤ u ∧ u ≤ 255) (hl : l.length ≤ 140737488351232 ∧ ∀ a ∈ l, aOk a) :
    Spec Try.prog 6 [.one (.c (.int .u8 u)), .one (.sl 46 (actD default) (l.map actD))] (.r1 (aB true)) := by
  have hsane := gsane_spec
  refine spec_of T_ok Try.func6 (by dsimp only [Try.f6]) rfl rfl (by simp) fun w F => ?_
  by_cases h14 : l.length > 14
  · have hd1 : decide ((l.length : Int) > 14) = true := decide_eq_true (by omega)
    repeat' (first | (with_reducible refine aw_seq ?_) | ((with_reducible refine two_intro ?_ ?_) <;> intro h <;> first | (exact Bool.noConfusion h) | ((first | (guard_hyp h : true = true; clear h) | (guard_hyp h : false = false; clear h)))) | ((first | ((with_reducible refine aw_regionA T_ok ?_ ?_); kernel_rfl) | ((with_reducible refine callI_spec (hsane) ?_ ?_ ?_ ?_); (focus (((repeat' (exact ta_n)); done))); kernel_rfl; kernel_rfl) | (with_reducible refine aw_skip ?_) | ((with_reducible refine aw_condM ?_ ?_); kernel_rfl) | (with_reducible refine aw_ret ?_) ); simp only [↓avP, avQ, avR, forall_const, implies_true, Nat.reduceEqDiff, Nat.reduceAdd, reduceCtorEq, avS, ty_22, hd1]; try simp (disch := omega) only [av_w, av_t1, av_tp, Int.toNat_natCast]))
    all_goals exact Sub.refl _
  have hd1 : decide ((l.length : Int) > 14) = false := decide_eq_false (by omega)
  obtain ⟨m, m1, m2, m3, m4, m5⟩ := mod4 hu
  obtain ⟨n, hn⟩ : ∃ n : Int, 1 + m = n := ⟨_, rfl⟩
  rw [hn] at m5
  have h1 : 1 ≤ n := by omega
  have h4 : n ≤ 4 := by omega
  obtain ⟨N, hN⟩ : ∃ N : Nat, n = N := ⟨n.toNat, by omega⟩
  subst hN
  have hnew := gnew_spec (N : Int)
  have hne : newE (N : Int) = 0 := by unfold newE; rw [if_neg (by omega)]
  rw [hne] at hnew
  have hall := acts_inv h1 h4 l (by omega) (fun a h => (hl.2 a h).1)
  rw [Int.toNat_natCast] at hall
  have hmem := tK_mem h1 h4 l (by omega) (fun a h => (hl.2 a h).1)
  have hlen := tK_len (N : Int) l
  have hK : ∀ k, k ≤ l.length → RInv N (tK N l k) (actsF N (l.take k)).1 := fun k hk => (hall k hk).inv.mono (fun x hx => (hmem k hk x).2 hx) (fun x hx => (hall k hk).inv.fT x ((hmem k hk x).1 hx))
  have hz := (hall 0 (Nat.zero_le _)).inv.len
  have hb0 : (((newR (N : Int)).peers.length : Int) != (N : Int)) = false := bne_f (by rw [List.take_zero] at hz; exact congrArg _ hz)
  have z0 : ((0 : Int) != 0) = false := rfl
  repeat' (first | (with_reducible refine aw_seq ?_) | ((with_reducible refine two_intro ?_ ?_) <;> intro h <;> first | (exact Bool.noConfusion h) | (((guard_hyp h : false = false; clear h)))) | ((with_reducible refine And.intro ?_ ?_); (focus (rfl))) | (with_reducible refine aw_block ?_) | ((first | ((with_reducible refine aw_regionA T_ok ?_ ?_); kernel_rfl) | ((with_reducible refine callI_spec (hsane) ?_ ?_ ?_ ?_); (focus (((repeat' (exact ta_n)); done))); kernel_rfl; kernel_rfl) | ((with_reducible refine callI_spec (hnew) ?_ ?_ ?_ ?_); (focus (((repeat' (first | exact ta_n | refine ta_d ?_)); done))); kernel_rfl; kernel_rfl) | (with_reducible refine aw_skip ?_) | ((with_reducible refine aw_condM ?_ ?_); kernel_rfl) ); simp only [↓avP, avQ, avR, forall_const, implies_true, Nat.reduceEqDiff, Nat.reduceAdd, Nat.reduceLeDiff, reduceCtorEq, Int.reduceEq, avS, roomD_B, ty_3, ty_5, ty_31, ty_22, ty_25, hd1, m1, m2, hn, m5, z0, hb0]; try simp (disch := omega) only [av_w, av_t1, av_tp, Int.toNat_natCast]))
  refine aw_nilT 8 46 42 (handD default) rfl ?_
  refine aw_loopI (fun k : Nat => ⟨[(4, vB false), (5, vI N), (6, .ptr 0 0), (8, .ow 1 42 (handD default) ((tK N l k).map handD)), (42, .d (.sl 46 (actD default) (l.map actD))), (43, vI l.length), (44, vI k)], [(1, .tok 46 42 (tK N l k).length), (0, .cells 31 (dV (roomD (actsF N (l.take k)).1)))], 2⟩) (fun k => k ≤ l.length) (fun k => l.length - k) 0 (Nat.zero_le _) (wk_of [(0, some 0), (1, some 1)] rfl rfl ?_ ?_) ?_
  · simp only [wkA, reduceIte, Nat.reduceEqDiff]
    try simp only [List.take_zero, actsF, List.foldl_nil]
    (repeat' (first | rfl | exact subVs_d _ _ | exact subD_refl _ | refine And.intro ?_ ?_))
  · simp only [wkA, reduceIte, Nat.reduceEqDiff]
    try simp only [List.take_zero, actsF, List.foldl_nil]
    (repeat' (first | rfl | exact subVs_d _ _ | exact subD_refl _ | refine And.intro ?_ ?_))
  intro k hk
  rcases Nat.lt_or_ge k l.length with hlt | hge
  · have hd2 := ltd hlt
    have hA := hall k (by omega)
    have hK0 := hK k (by omega)
    have hK1 := hK (k + 1) (by omega)
    have hlT := hlen (k + 1)
    have hst := acts_step N l k hlt
    have hm : l.getD k default ∈ l := mem_getD hlt
    have hgl : l.getD k default = l[k] := by simp [List.getD_eq_getElem?_getD, List.getElem?_eq_getElem hlt]
    have hga := getD_acts l k
    obtain ⟨ao1, ao2⟩ := hl.2 _ hm
    have hT1 : tK N l (k + 1) = if doE (actsF N (l.take k)).1 (l.getD k default) = 0 ∧ (l.getD k default).kind = 1 then tK N l k ++ [(l.getD k default).hand] else tK N l k := by rw [tK]
    rw [← hgl] at hst
    generalize hS : actsF N (l.take k) = S at *
    generalize l.getD k default = a at *
    have hsm := hA.sm (by omega)
    have hdo := gdo_spec S.1 a (hA.inv.ok (by have := hsm.1; omega) (by have := hsm.2; omega)) (fun _ => hA.inv.few hsm.1 hsm.2) ao1 ao2
    by_cases h0 : doE S.1 a = 0
    · rw [h0] at hdo
      obtain ⟨a1, a2, a3, a4, a5, a6⟩ := hA.inv.act hsm ao1 h0
      have hst' : actsF N (l.take (k + 1)) = (doR S.1 a, if a.kind = 1 then learnL S.2 a.hand else S.2) := by rw [hst]; unfold stepA; rw [if_pos h0]
      have hA1 := hall (k + 1) (by omega)
      rw [hst'] at hA1 hK1
      have hkeep : ∀ i, ∀ x ∈ S.1.peers.getD i [], x ∈ (doR S.1 a).peers.getD i [] := by rw [a2]; exact a5
      have hst1 : (actsF N (l.take (k + 1))).1 = doR S.1 a := by rw [hst']
      have hchk := gcheck_spec (doR S.1 a) (hK1.ok (by have := hA1.lenQ; dsimp only at this ⊢; omega) (by omega))
      rw [hK1.chk (by have := hA1.lenQ; dsimp only at this ⊢; omega) (by omega)] at hchk
      have hXl : (doR S.1 a).peers.length = N := hK1.len
      have hSl : S.1.peers.length = N := hA.inv.len
      have hb1 : (((doR S.1 a).peers.length : Int) != (N : Int)) = false := bne_f (by rw [hXl])
      generalize doR S.1 a = X at *
      by_cases hk1 : a.kind = 1
      · have hkb : (a.kind == 1) = true := by simpa using hk1
        rw [if_pos ⟨h0, hk1⟩] at hT1
        have eT : (tK N l (k + 1)).map handD = (tK N l k).map handD ++ [handD a.hand] := by rw [hT1]; simp
        have eL : (tK N l (k + 1)).length = (tK N l k).length + 1 := by rw [hT1]; simp
        repeat' (first | (with_reducible refine aw_seq ?_) | ((with_reducible refine two_intro ?_ ?_) <;> intro h <;> first | (exact Bool.noConfusion h) | ((first | (guard_hyp h : true = true; clear h) | (guard_hyp h : false = false; clear h)))) | ((with_reducible refine And.intro ?_ ?_); (focus (first | omega | rfl | decide))) | (with_reducible refine aw_block ?_) | ((first | ((with_reducible refine aw_regionA T_ok ?_ ?_); kernel_rfl) | ((with_reducible refine callI_spec (hdo) ?_ ?_ ?_ ?_); (focus (((repeat' (first | exact ta_n | refine ta_a ?_)); done))); kernel_rfl; kernel_rfl) | ((with_reducible refine callK_intro (hchk) ?_ ?_ ?_); (focus (((repeat' (first | exact ta_n | refine ta_a ?_)); done))); kernel_rfl) | (with_reducible refine aw_skip ?_) | ((with_reducible refine aw_condM ?_ ?_); kernel_rfl) ); simp only [↓avP, avQ, avR, forall_const, implies_true, Nat.reduceEqDiff, Nat.reduceAdd, Nat.reduceLeDiff, Nat.reduceLT, reduceCtorEq, ↓zA_one, zA_map, roomD_B, actS, handS, ↓zH_D, ty_H, ty_A, ty_3, ty_31, ty_22, ty_25, ty_32, hd2, hga, hkb, z0, hb1]; try simp (disch := omega) only [av_w, av_t1, av_tp, Int.toNat_natCast]))
        refine aw_loopI (fun i : Nat => ⟨[(4, vB false), (5, vI N), (6, .ptr 0 0), (8, .ow 1 42 (handD default) ((tK N l (k + 1)).map handD)), (11, .ptr 2 0), (42, .d (.sl 46 (actD default) (l.map actD))), (43, vI l.length), (44, vI k), (75, .d (.sl 1 peer0 (X.peers.map peerD))), (76, vI X.peers.length), (77, vI i)], [(2, .cells 31 (dV (roomD X))), (1, .tok 46 42 (tK N l (k + 1)).length), (0, .cells 31 (dV (roomD S.1)))], 3⟩) (fun i => i ≤ X.peers.length) (fun i => X.peers.length - i) 0 (Nat.zero_le _) (wk_of [(0, some 0), (1, some 5), (2, some 3)] rfl rfl ?_ ?_) ?_
        · simp only [wkA, reduceIte, Nat.reduceEqDiff, eT, eL]
          (repeat' (first | rfl | exact subVs_d _ _ | exact subD_refl _ | refine And.intro ?_ ?_))
        · simp only [wkA, reduceIte, Nat.reduceEqDiff, eT, eL]
          (repeat' (first | rfl | exact subVs_d _ _ | exact subD_refl _ | refine And.intro ?_ ?_))
        intro i hi
        rcases Nat.lt_or_ge i X.peers.length with hli | hgi
        · have hdi := ltd hli
          have hgp := getD_peers X.peers i hli
          have hgr := getD_peers S.1.peers i (by omega)
          obtain ⟨g1, g2, g3⟩ := hK1.getD i
          obtain ⟨r1, r2, r3⟩ := hA.inv.getD i
          have hkp := hkeep i
          generalize X.peers.getD i [] = P at *
          generalize S.1.peers.getD i [] = R at *
          have hdp : decide ((P.length : Int) > ((tK N l (k + 1)).length : Int)) = false := decide_eq_false (by omega)
          have hP : P.length ≤ 140737488351232 := by omega
          have hTl : (tK N l (k + 1)).length ≤ 140737488351232 := by omega
          have hRl : R.length ≤ 140737488351232 := by have := hA.lenT; omega
          repeat' (first | (with_reducible refine aw_seq ?_) | ((with_reducible refine two_intro ?_ ?_) <;> intro h <;> first | (exact Bool.noConfusion h) | ((first | (guard_hyp h : true = true; clear h) | (guard_hyp h : false = false; clear h)))) | ((with_reducible refine And.intro ?_ ?_); (focus (first | omega | rfl))) | (with_reducible refine aw_block ?_) | ((first | ((with_reducible refine aw_regionA T_ok ?_ ?_); kernel_rfl) | (with_reducible refine aw_skip ?_) | ((with_reducible refine aw_condM ?_ ?_); kernel_rfl) ); simp only [↓avP, avQ, avR, forall_const, implies_true, Nat.reduceEqDiff, Nat.reduceAdd, Nat.reduceLeDiff, reduceCtorEq, ty_25, ty_55, ty_32, hdi, hgp, hdp]; try simp (disch := omega) only [av_w, av_t1, av_tp, Int.toNat_natCast]))
          refine aw_loopI (fun j : Nat => ⟨[(4, vB false), (5, vI N), (6, .ptr 0 0), (8, .ow 1 42 (handD default) ((tK N l (k + 1)).map handD)), (11, .ptr 2 0), (13, vI i), (14, .ptr 3 0), (42, .d (.sl 46 (actD default) (l.map actD))), (43, vI l.length), (44, vI k), (75, .d (.sl 1 peer0 (X.peers.map peerD))), (76, vI X.peers.length), (77, vI i), (89, .d (handsD P)), (90, vI P.length), (91, vI j)], [(3, .cells 55 [.d (handsD P)]), (2, .cells 31 (dV (roomD X))), (1, .tok 46 42 (tK N l (k + 1)).length), (0, .cells 31 (dV (roomD S.1)))], 4⟩) (fun j => j ≤ P.length) (fun j => P.length - j) 0 (Nat.zero_le _) (wk_of [(0, some 0), (1, some 1), (2, some 2), (3, some 3)] rfl rfl ?_ ?_) ?_
          · simp only [wkA, reduceIte, Nat.reduceEqDiff]
            (repeat' (first | rfl | exact subVs_d _ _ | exact subD_refl _ | refine And.intro ?_ ?_))
          · simp only [wkA, reduceIte, Nat.reduceEqDiff]
            (repeat' (first | rfl | exact subVs_d _ _ | exact subD_refl _ | refine And.intro ?_ ?_))
          intro j hj
          rcases Nat.lt_or_ge j P.length with hlj | hgj
          · have hdj := ltd hlj
            have hhas := ghas_spec (tK N l (k + 1)) (P.getD j default) hTl
            rw [decide_eq_true (g2 _ (mem_getD hlj))] at hhas
            repeat' (first | (with_reducible refine aw_seq ?_) | ((with_reducible refine two_intro ?_ ?_) <;> intro h <;> first | (exact Bool.noConfusion h) | ((first | (guard_hyp h : true = true; clear h) | (guard_hyp h : false = false; clear h)))) | ((with_reducible refine And.intro ?_ ?_); (focus (omega))) | (with_reducible refine aw_block ?_) | ((first | ((with_reducible refine aw_regionA T_ok ?_ ?_); kernel_rfl) | ((with_reducible refine callI_spec (hhas) ?_ ?_ ?_ ?_); (focus (((repeat' (first | exact ta_n | refine ta_a ?_ | refine ta_d ?_)); done))); kernel_rfl; kernel_rfl) | (with_reducible refine aw_skip ?_) | ((with_reducible refine aw_condM ?_ ?_); kernel_rfl) ); simp only [↓avP, avQ, avR, forall_const, implies_true, Nat.reduceEqDiff, Nat.reduceAdd, Nat.reduceLeDiff, reduceCtorEq, handS, hd_dr, ↓zH_one, zH_map, ty_H, ty_55, ty_32, hdj]; try simp (disch := omega) only [av_w]))
            refine ⟨j + 1, by omega, by dsimp only; omega, wk_of [(0, some 0), (1, some 1), (2, some 2), (3, some 3)] rfl rfl ?_ ?_⟩
            · simp only [wkA, reduceIte, Nat.reduceEqDiff]
              (repeat' (first | rfl | exact subVs_d _ _ | exact subD_refl _ | refine And.intro ?_ ?_))
            · simp only [wkA, reduceIte, Nat.reduceEqDiff]
              (repeat' (first | rfl | exact subVs_d _ _ | exact subD_refl _ | refine And.intro ?_ ?_))
          · obtain rfl : j = P.length := Nat.le_antisymm hj hgj
            have hdj := ged (Nat.le_refl P.length)
            have hli2 : decide ((i : Int) < (S.1.peers.length : Int)) = true := decide_eq_true (by omega)
            repeat' (first | (with_reducible refine aw_seq ?_) | ((with_reducible refine two_intro ?_ ?_) <;> intro h <;> first | (exact Bool.noConfusion h) | (((guard_hyp h : false = false; clear h)))) | ((with_reducible refine And.intro ?_ ?_); (focus (omega))) | (with_reducible refine aw_block ?_) | ((first | ((with_reducible refine aw_regionA T_ok ?_ ?_); kernel_rfl) | (with_reducible refine aw_exit ?_) | ((with_reducible refine aw_condM ?_ ?_); kernel_rfl) ); simp only [↓avP, avQ, avR, forall_const, implies_true, Nat.reduceEqDiff, reduceCtorEq, roomD_B, ty_31, ty_25, ty_55, ty_32, hdj, hgr]; try simp (disch := omega) only [av_w, av_t1, av_tp, Int.toNat_natCast]))
            refine aw_loopI (fun j : Nat => ⟨[(4, vB false), (5, vI N), (6, .ptr 0 0), (8, .ow 1 42 (handD default) ((tK N l (k + 1)).map handD)), (11, .ptr 2 0), (14, .ptr 3 0), (42, .d (.sl 46 (actD default) (l.map actD))), (43, vI l.length), (44, vI k), (75, .d (.sl 1 peer0 (X.peers.map peerD))), (76, vI X.peers.length), (77, vI i), (105, .d (handsD R)), (106, vI R.length), (107, vI j)], [(3, .cells 55 [.d (handsD P)]), (2, .cells 31 (dV (roomD X))), (1, .tok 46 42 (tK N l (k + 1)).length), (0, .cells 31 (dV (roomD S.1)))], 4⟩) (fun j => j ≤ R.length) (fun j => R.length - j) 0 (Nat.zero_le _) (wk_of [(0, some 0), (1, some 1), (2, some 2), (3, some 3)] rfl rfl ?_ ?_) ?_
            · simp only [wkA, reduceIte, Nat.reduceEqDiff]
              (repeat' (first | rfl | exact subVs_d _ _ | exact subD_refl _ | refine And.intro ?_ ?_))
            · simp only [wkA, reduceIte, Nat.reduceEqDiff]
              (repeat' (first | rfl | exact subVs_d _ _ | exact subD_refl _ | refine And.intro ?_ ?_))
            intro j hj
            rcases Nat.lt_or_ge j R.length with hlj | hgj
            · have hdj := ltd hlj
              have hhas := ghas_spec P (R.getD j default) hP
              rw [decide_eq_true (hkp _ (mem_getD hlj))] at hhas
              repeat' (first | (with_reducible refine aw_seq ?_) | ((with_reducible refine two_intro ?_ ?_) <;> intro h <;> first | (exact Bool.noConfusion h) | ((first | (guard_hyp h : true = true; clear h) | (guard_hyp h : false = false; clear h)))) | ((with_reducible refine And.intro ?_ ?_); (focus (omega))) | (with_reducible refine aw_block ?_) | ((first | ((with_reducible refine aw_regionA T_ok ?_ ?_); kernel_rfl) | ((with_reducible refine callI_spec (hhas) ?_ ?_ ?_ ?_); (focus (((repeat' (first | exact ta_n | refine ta_a ?_ | refine ta_d ?_)); done))); kernel_rfl; kernel_rfl) | (with_reducible refine aw_skip ?_) | ((with_reducible refine aw_condM ?_ ?_); kernel_rfl) ); simp only [↓avP, avQ, avR, forall_const, implies_true, Nat.reduceEqDiff, Nat.reduceAdd, Nat.reduceLeDiff, reduceCtorEq, handS, hd_dr, ↓zH_one, zH_map, ty_H, ty_55, ty_32, hdj]; try simp (disch := omega) only [av_w]))
              refine ⟨j + 1, by omega, by dsimp only; omega, wk_of [(0, some 0), (1, some 1), (2, some 2), (3, some 3)] rfl rfl ?_ ?_⟩
              · simp only [wkA, reduceIte, Nat.reduceEqDiff]
                (repeat' (first | rfl | exact subVs_d _ _ | exact subD_refl _ | refine And.intro ?_ ?_))
              · simp only [wkA, reduceIte, Nat.reduceEqDiff]
                (repeat' (first | rfl | exact subVs_d _ _ | exact subD_refl _ | refine And.intro ?_ ?_))
            · obtain rfl : j = R.length := Nat.le_antisymm hj hgj
              have hdj := ged (Nat.le_refl R.length)
              repeat' (first | (with_reducible refine aw_seq ?_) | ((with_reducible refine two_intro ?_ ?_) <;> intro h <;> first | (exact Bool.noConfusion h) | (((guard_hyp h : false = false; clear h)))) | ((first | ((with_reducible refine aw_regionA T_ok ?_ ?_); kernel_rfl) | (with_reducible refine aw_exit ?_) | ((with_reducible refine aw_condM ?_ ?_); kernel_rfl) ); simp only [↓avP, avQ, avR, forall_const, implies_true, Nat.reduceEqDiff, reduceCtorEq, hdj]; try simp (disch := omega) only [av_w]))
              refine ⟨i + 1, by omega, by dsimp only; omega, wk_of [(0, some 0), (1, some 1), (2, some 2)] rfl rfl ?_ ?_⟩
              · simp only [wkA, reduceIte, Nat.reduceEqDiff]
                (repeat' (first | rfl | exact subVs_d _ _ | exact subD_refl _ | refine And.intro ?_ ?_))
              · simp only [wkA, reduceIte, Nat.reduceEqDiff]
                (repeat' (first | rfl | exact subVs_d _ _ | exact subD_refl _ | refine And.intro ?_ ?_))
        · obtain rfl : i = X.peers.length := Nat.le_antisymm hi hgi
          have hdi := ged (Nat.le_refl X.peers.length)
          repeat' (first | (with_reducible refine aw_seq ?_) | ((with_reducible refine two_intro ?_ ?_) <;> intro h <;> first | (exact Bool.noConfusion h) | (((guard_hyp h : false = false; clear h)))) | ((first | ((with_reducible refine aw_regionA T_ok ?_ ?_); kernel_rfl) | (with_reducible refine aw_exit ?_) | ((with_reducible refine aw_condM ?_ ?_); kernel_rfl) ); simp only [↓avP, avQ, avR, forall_const, implies_true, Nat.reduceEqDiff, Nat.reduceLeDiff, reduceCtorEq, rm_dr, roomD_B, ty_31, hdi]; try simp (disch := omega) only [av_w]))
          refine ⟨k + 1, by omega, by dsimp only; omega, wk_of [(0, some 0), (1, some 1)] rfl rfl ?_ ?_⟩
          · simp only [wkA, reduceIte, Nat.reduceEqDiff, hst1]
            (repeat' (first | rfl | exact subVs_d _ _ | exact subD_refl _ | refine And.intro ?_ ?_))
          · simp only [wkA, reduceIte, Nat.reduceEqDiff, hst1]
            (repeat' (first | rfl | exact subVs_d _ _ | exact subD_refl _ | refine And.intro ?_ ?_))
      · have hkb : (a.kind == 1) = false := by simpa using hk1
        rw [if_neg (fun h => hk1 h.2)] at hT1
        have eT : (tK N l (k + 1)).map handD = (tK N l k).map handD := by rw [hT1]
        have eL : (tK N l (k + 1)).length = (tK N l k).length := by rw [hT1]
        repeat' (first | (with_reducible refine aw_seq ?_) | ((with_reducible refine two_intro ?_ ?_) <;> intro h <;> first | (exact Bool.noConfusion h) | ((first | (guard_hyp h : true = true; clear h) | (guard_hyp h : false = false; clear h)))) | ((with_reducible refine And.intro ?_ ?_); (focus (first | omega | rfl | decide))) | (with_reducible refine aw_block ?_) | ((first | ((with_reducible refine aw_regionA T_ok ?_ ?_); kernel_rfl) | ((with_reducible refine callI_spec (hdo) ?_ ?_ ?_ ?_); (focus (((repeat' (first | exact ta_n | refine ta_a ?_)); done))); kernel_rfl; kernel_rfl) | ((with_reducible refine callK_intro (hchk) ?_ ?_ ?_); (focus (((repeat' (first | exact ta_n | refine ta_a ?_)); done))); kernel_rfl) | (with_reducible refine aw_skip ?_) | ((with_reducible refine aw_condM ?_ ?_); kernel_rfl) ); simp only [↓avP, avQ, avR, forall_const, implies_true, Nat.reduceEqDiff, Nat.reduceAdd, Nat.reduceLeDiff, Nat.reduceLT, reduceCtorEq, ↓zA_one, zA_map, roomD_B, actS, handS, ↓zH_D, ty_H, ty_A, ty_3, ty_31, ty_22, ty_25, ty_32, hd2, hga, hkb, z0, hb1]; try simp (disch := omega) only [av_w, av_t1, av_tp, Int.toNat_natCast]))
        refine aw_loopI (fun i : Nat => ⟨[(4, vB false), (5, vI N), (6, .ptr 0 0), (8, .ow 1 42 (handD default) ((tK N l (k + 1)).map handD)), (11, .ptr 2 0), (42, .d (.sl 46 (actD default) (l.map actD))), (43, vI l.length), (44, vI k), (75, .d (.sl 1 peer0 (X.peers.map peerD))), (76, vI X.peers.length), (77, vI i)], [(2, .cells 31 (dV (roomD X))), (1, .tok 46 42 (tK N l (k + 1)).length), (0, .cells 31 (dV (roomD S.1)))], 3⟩) (fun i => i ≤ X.peers.length) (fun i => X.peers.length - i) 0 (Nat.zero_le _) (wk_of [(0, some 0), (1, some 1), (2, some 3)] rfl rfl ?_ ?_) ?_
        · simp only [wkA, reduceIte, Nat.reduceEqDiff, eT, eL]
          (repeat' (first | rfl | exact subVs_d _ _ | exact subD_refl _ | refine And.intro ?_ ?_))
        · simp only [wkA, reduceIte, Nat.reduceEqDiff, eT, eL]
          (repeat' (first | rfl | exact subVs_d _ _ | exact subD_refl _ | refine And.intro ?_ ?_))
        intro i hi
        rcases Nat.lt_or_ge i X.peers.length with hli | hgi
        · have hdi := ltd hli
          have hgp := getD_peers X.peers i hli
          have hgr := getD_peers S.1.peers i (by omega)
          obtain ⟨g1, g2, g3⟩ := hK1.getD i
          obtain ⟨r1, r2, r3⟩ := hA.inv.getD i
          have hkp := hkeep i
          generalize X.peers.getD i [] = P at *
          generalize S.1.peers.getD i [] = R at *
          have hdp : decide ((P.length : Int) > ((tK N l (k + 1)).length : Int)) = false := decide_eq_false (by omega)
          have hP : P.length ≤ 140737488351232 := by omega
          have hTl : (tK N l (k + 1)).length ≤ 140737488351232 := by omega
          have hRl : R.length ≤ 140737488351232 := by have := hA.lenT; omega
          repeat' (first | (with_reducible refine aw_seq ?_) | ((with_reducible refine two_intro ?_ ?_) <;> intro h <;> first | (exact Bool.noConfusion h) | ((first | (guard_hyp h : true = true; clear h) | (guard_hyp h : false = false; clear h)))) | ((with_reducible refine And.intro ?_ ?_); (focus (first | omega | rfl))) | (with_reducible refine aw_block ?_) | ((first | ((with_reducible refine aw_regionA T_ok ?_ ?_); kernel_rfl) | (with_reducible refine aw_skip ?_) | ((with_reducible refine aw_condM ?_ ?_); kernel_rfl) ); simp only [↓avP, avQ, avR, forall_const, implies_true, Nat.reduceEqDiff, Nat.reduceAdd, Nat.reduceLeDiff, reduceCtorEq, ty_25, ty_55, ty_32, hdi, hgp, hdp]; try simp (disch := omega) only [av_w, av_t1, av_tp, Int.toNat_natCast]))
          refine aw_loopI (fun j : Nat => ⟨[(4, vB false), (5, vI N), (6, .ptr 0 0), (8, .ow 1 42 (handD default) ((tK N l (k + 1)).map handD)), (11, .ptr 2 0), (13, vI i), (14, .ptr 3 0), (42, .d (.sl 46 (actD default) (l.map actD))), (43, vI l.length), (44, vI k), (75, .d (.sl 1 peer0 (X.peers.map peerD))), (76, vI X.peers.length), (77, vI i), (89, .d (handsD P)), (90, vI P.length), (91, vI j)], [(3, .cells 55 [.d (handsD P)]), (2, .cells 31 (dV (roomD X))), (1, .tok 46 42 (tK N l (k + 1)).length), (0, .cells 31 (dV (roomD S.1)))], 4⟩) (fun j => j ≤ P.length) (fun j => P.length - j) 0 (Nat.zero_le _) (wk_of [(0, some 0), (1, some 1), (2, some 2), (3, some 3)] rfl rfl ?_ ?_) ?_
          · simp only [wkA, reduceIte, Nat.reduceEqDiff]
            (repeat' (first | rfl | exact subVs_d _ _ | exact subD_refl _ | refine And.intro ?_ ?_))
          · simp only [wkA, reduceIte, Nat.reduceEqDiff]
            (repeat' (first | rfl | exact subVs_d _ _ | exact subD_refl _ | refine And.intro ?_ ?_))
          intro j hj
          rcases Nat.lt_or_ge j P.length with hlj | hgj
          · have hdj := ltd hlj
            have hhas := ghas_spec (tK N l (k + 1)) (P.getD j default) hTl
            rw [decide_eq_true (g2 _ (mem_getD hlj))] at hhas
            repeat' (first | (with_reducible refine aw_seq ?_) | ((with_reducible refine two_intro ?_ ?_) <;> intro h <;> first | (exact Bool.noConfusion h) | ((first | (guard_hyp h : true = true; clear h) | (guard_hyp h : false = false; clear h)))) | ((with_reducible refine And.intro ?_ ?_); (focus (omega))) | (with_reducible refine aw_block ?_) | ((first | ((with_reducible refine aw_regionA T_ok ?_ ?_); kernel_rfl) | ((with_reducible refine callI_spec (hhas) ?_ ?_ ?_ ?_); (focus (((repeat' (first | exact ta_n | refine ta_a ?_ | refine ta_d ?_)); done))); kernel_rfl; kernel_rfl) | (with_reducible refine aw_skip ?_) | ((with_reducible refine aw_condM ?_ ?_); kernel_rfl) ); simp only [↓avP, avQ, avR, forall_const, implies_true, Nat.reduceEqDiff, Nat.reduceAdd, Nat.reduceLeDiff, reduceCtorEq, handS, hd_dr, ↓zH_one, zH_map, ty_H, ty_55, ty_32, hdj]; try simp (disch := omega) only [av_w]))
            refine ⟨j + 1, by omega, by dsimp only; omega, wk_of [(0, some 0), (1, some 1), (2, some 2), (3, some 3)] rfl rfl ?_ ?_⟩
            · simp only [wkA, reduceIte, Nat.reduceEqDiff]
              (repeat' (first | rfl | exact subVs_d _ _ | exact subD_refl _ | refine And.intro ?_ ?_))
            · simp only [wkA, reduceIte, Nat.reduceEqDiff]
              (repeat' (first | rfl | exact subVs_d _ _ | exact subD_refl _ | refine And.intro ?_ ?_))
          · obtain rfl : j = P.length := Nat.le_antisymm hj hgj
            have hdj := ged (Nat.le_refl P.length)
            have hli2 : decide ((i : Int) < (S.1.peers.length : Int)) = true := decide_eq_true (by omega)
            repeat' (first | (with_reducible refine aw_seq ?_) | ((with_reducible refine two_intro ?_ ?_) <;> intro h <;> first | (exact Bool.noConfusion h) | (((guard_hyp h : false = false; clear h)))) | ((with_reducible refine And.intro ?_ ?_); (focus (omega))) | (with_reducible refine aw_block ?_) | ((first | ((with_reducible refine aw_regionA T_ok ?_ ?_); kernel_rfl) | (with_reducible refine aw_exit ?_) | ((with_reducible refine aw_condM ?_ ?_); kernel_rfl) ); simp only [↓avP, avQ, avR, forall_const, implies_true, Nat.reduceEqDiff, reduceCtorEq, roomD_B, ty_31, ty_25, ty_55, ty_32, hdj, hgr]; try simp (disch := omega) only [av_w, av_t1, av_tp, Int.toNat_natCast]))
            refine aw_loopI (fun j : Nat => ⟨[(4, vB false), (5, vI N), (6, .ptr 0 0), (8, .ow 1 42 (handD default) ((tK N l (k + 1)).map handD)), (11, .ptr 2 0), (14, .ptr 3 0), (42, .d (.sl 46 (actD default) (l.map actD))), (43, vI l.length), (44, vI k), (75, .d (.sl 1 peer0 (X.peers.map peerD))), (76, vI X.peers.length), (77, vI i), (105, .d (handsD R)), (106, vI R.length), (107, vI j)], [(3, .cells 55 [.d (handsD P)]), (2, .cells 31 (dV (roomD X))), (1, .tok 46 42 (tK N l (k + 1)).length), (0, .cells 31 (dV (roomD S.1)))], 4⟩) (fun j => j ≤ R.length) (fun j => R.length - j) 0 (Nat.zero_le _) (wk_of [(0, some 0), (1, some 1), (2, some 2), (3, some 3)] rfl rfl ?_ ?_) ?_
            · simp only [wkA, reduceIte, Nat.reduceEqDiff]
              (repeat' (first | rfl | exact subVs_d _ _ | exact subD_refl _ | refine And.intro ?_ ?_))
            · simp only [wkA, reduceIte, Nat.reduceEqDiff]
              (repeat' (first | rfl | exact subVs_d _ _ | exact subD_refl _ | refine And.intro ?_ ?_))
            intro j hj
            rcases Nat.lt_or_ge j R.length with hlj | hgj
            · have hdj := ltd hlj
              have hhas := ghas_spec P (R.getD j default) hP
              rw [decide_eq_true (hkp _ (mem_getD hlj))] at hhas
              repeat' (first | (with_reducible refine aw_seq ?_) | ((with_reducible refine two_intro ?_ ?_) <;> intro h <;> first | (exact Bool.noConfusion h) | ((first | (guard_hyp h : true = true; clear h) | (guard_hyp h : false = false; clear h)))) | ((with_reducible refine And.intro ?_ ?_); (focus (omega))) | (with_reducible refine aw_block ?_) | ((first | ((with_reducible refine aw_regionA T_ok ?_ ?_); kernel_rfl) | ((with_reducible refine callI_spec (hhas) ?_ ?_ ?_ ?_); (focus (((repeat' (first | exact ta_n | refine ta_a ?_ | refine ta_d ?_)); done))); kernel_rfl; kernel_rfl) | (with_reducible refine aw_skip ?_) | ((with_reducible refine aw_condM ?_ ?_); kernel_rfl) ); simp only [↓avP, avQ, avR, forall_const, implies_true, Nat.reduceEqDiff, Nat.reduceAdd, Nat.reduceLeDiff, reduceCtorEq, handS, hd_dr, ↓zH_one, zH_map, ty_H, ty_55, ty_32, hdj]; try simp (disch := omega) only [av_w]))
              refine ⟨j + 1, by omega, by dsimp only; omega, wk_of [(0, some 0), (1, some 1), (2, some 2), (3, some 3)] rfl rfl ?_ ?_⟩
              · simp only [wkA, reduceIte, Nat.reduceEqDiff]
                (repeat' (first | rfl | exact subVs_d _ _ | exact subD_refl _ | refine And.intro ?_ ?_))
              · simp only [wkA, reduceIte, Nat.reduceEqDiff]
                (repeat' (first | rfl | exact subVs_d _ _ | exact subD_refl _ | refine And.intro ?_ ?_))
            · obtain rfl : j = R.length := Nat.le_antisymm hj hgj
              have hdj := ged (Nat.le_refl R.length)
              repeat' (first | (with_reducible refine aw_seq ?_) | ((with_reducible refine two_intro ?_ ?_) <;> intro h <;> first | (exact Bool.noConfusion h) | (((guard_hyp h : false = false; clear h)))) | ((first | ((with_reducible refine aw_regionA T_ok ?_ ?_); kernel_rfl) | (with_reducible refine aw_exit ?_) | ((with_reducible refine aw_condM ?_ ?_); kernel_rfl) ); simp only [↓avP, avQ, avR, forall_const, implies_true, Nat.reduceEqDiff, reduceCtorEq, hdj]; try simp (disch := omega) only [av_w]))
              refine ⟨i + 1, by omega, by dsimp only; omega, wk_of [(0, some 0), (1, some 1), (2, some 2)] rfl rfl ?_ ?_⟩
              · simp only [wkA, reduceIte, Nat.reduceEqDiff]
                (repeat' (first | rfl | exact subVs_d _ _ | exact subD_refl _ | refine And.intro ?_ ?_))
              · simp only [wkA, reduceIte, Nat.reduceEqDiff]
                (repeat' (first | rfl | exact subVs_d _ _ | exact subD_refl _ | refine And.intro ?_ ?_))
        · obtain rfl : i = X.peers.length := Nat.le_antisymm hi hgi
          have hdi := ged (Nat.le_refl X.peers.length)
          repeat' (first | (with_reducible refine aw_seq ?_) | ((with_reducible refine two_intro ?_ ?_) <;> intro h <;> first | (exact Bool.noConfusion h) | (((guard_hyp h : false = false; clear h)))) | ((first | ((with_reducible refine aw_regionA T_ok ?_ ?_); kernel_rfl) | (with_reducible refine aw_exit ?_) | ((with_reducible refine aw_condM ?_ ?_); kernel_rfl) ); simp only [↓avP, avQ, avR, forall_const, implies_true, Nat.reduceEqDiff, Nat.reduceLeDiff, reduceCtorEq, rm_dr, roomD_B, ty_31, hdi]; try simp (disch := omega) only [av_w]))
          refine ⟨k + 1, by omega, by dsimp only; omega, wk_of [(0, some 0), (1, some 1)] rfl rfl ?_ ?_⟩
          · simp only [wkA, reduceIte, Nat.reduceEqDiff, hst1]
            (repeat' (first | rfl | exact subVs_d _ _ | exact subD_refl _ | refine And.intro ?_ ?_))
          · simp only [wkA, reduceIte, Nat.reduceEqDiff, hst1]
            (repeat' (first | rfl | exact subVs_d _ _ | exact subD_refl _ | refine And.intro ?_ ?_))
    · have hR := doR_bad h0
      have hst' : actsF N (l.take (k + 1)) = S := by rw [hst]; unfold stepA; rw [if_neg h0]
      have hne : (doE S.1 a != 0) = true := by simpa using h0
      rw [if_neg (fun h => h0 h.1)] at hT1
      rw [hR] at hdo
      repeat' (first | (with_reducible refine aw_seq ?_) | ((with_reducible refine two_intro ?_ ?_) <;> intro h <;> first | (exact Bool.noConfusion h) | (((guard_hyp h : true = true; clear h)))) | ((with_reducible refine And.intro ?_ ?_); (focus (first | omega | rfl))) | (with_reducible refine aw_block ?_) | ((first | ((with_reducible refine aw_regionA T_ok ?_ ?_); kernel_rfl) | ((with_reducible refine callI_spec (hdo) ?_ ?_ ?_ ?_); (focus (((repeat' (first | exact ta_n | refine ta_a ?_)); done))); kernel_rfl; kernel_rfl) | (with_reducible refine aw_skip ?_) | (with_reducible refine aw_exit ?_) | ((with_reducible refine aw_condM ?_ ?_); kernel_rfl) ); simp only [↓avP, avQ, avR, forall_const, implies_true, Nat.reduceEqDiff, Nat.reduceAdd, Nat.reduceLeDiff, reduceCtorEq, ↓zA_one, zA_map, roomD_B, actS, ty_A, ty_31, ty_22, hd2, hga, hne]; try simp (disch := omega) only [av_w]))
      refine ⟨k + 1, by omega, by dsimp only; omega, wk_of [(0, some 0), (1, some 1)] rfl rfl ?_ ?_⟩
      · simp only [wkA, reduceIte, Nat.reduceEqDiff, hst', hS, hT1]
        (repeat' (first | rfl | exact subVs_d _ _ | exact subD_refl _ | refine And.intro ?_ ?_))
      · simp only [wkA, reduceIte, Nat.reduceEqDiff, hst', hS, hT1]
        (repeat' (first | rfl | exact subVs_d _ _ | exact subD_refl _ | refine And.intro ?_ ?_))
  · obtain rfl : k = l.length := by omega
    have hd2 := ged (Nat.le_refl l.length)
    repeat' (first | (with_reducible refine aw_seq ?_) | ((with_reducible refine two_intro ?_ ?_) <;> intro h <;> first | (exact Bool.noConfusion h) | (((guard_hyp h : false = false; clear h)))) | ((first | ((with_reducible refine aw_regionA T_ok ?_ ?_); kernel_rfl) | (with_reducible refine aw_exit ?_) | ((with_reducible refine aw_condM ?_ ?_); kernel_rfl) | (with_reducible refine aw_ret ?_) ); simp only [↓avP, avQ, avR, forall_const, implies_true, Nat.reduceEqDiff, avS, hd2]; try simp (disch := omega) only [av_w, av_t1, av_tp, Int.toNat_natCast]))
    all_goals exact Sub.refl _
end Go.Proofs.Ythidfoohhhkobaa

