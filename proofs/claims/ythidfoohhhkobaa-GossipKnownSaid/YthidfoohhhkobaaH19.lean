import Derived.Test.YthidfoohhhkobaaH18
import Derived.Test.YthidfoohhhkobaaH14
namespace Go.Proofs.Ythidfoohhhkobaa
set_option linter.unusedSimpArgs false
set_option linter.unusedVariables false
open Go.RowKit
set_option maxRecDepth 100000
set_option maxHeartbeats 4000000
def DQ (w : World) (F : Ft) (r : Ret) : Exit → Act → World → Prop := fun e a w' => match e with
  | .normal | .ret => LeavesInM Fence.wide 0 Try.prog Try.f12 a.tmps (RQ w F r) a.defers .returning w'
  | .panic ch => LeavesInM Fence.wide 0 Try.prog Try.f12 a.tmps (RQ w F r) a.defers (.panicking ch) w'
  | _ => False
def QF (r : RoomP) (e : Int) : AQ := fun x s => match x with
  | .normal | .ret => retL T s.st s.tm [.cell 4 31, .cell 5 48] (fun vs => RetV vs (.rt [aRoom r, aI e]))
  | .panic ch => (ch = [{ v := .iface 48 (.int .i64 e), recovered := false }] ∧ r = room0) ∧ lkT s.tm 4 = .ptr 0 0 ∧ lkT s.tm 5 = .ptr 1 0 ∧ lkT s.tm 40 = .ptr 0 0 ∧ lkT s.tm 41 = .ptr 1 0 ∧ (∃ r0 r1 r2 v, lkB s.st 0 = some (.cells 31 [r0, r1, r2]) ∧ lkB s.st 1 = some (.cells 48 [v]))
  | _ => False
theorem dq_of {w : World} {F : Ft} {X Y : Nat} {r : RoomP} {e : Int} (x : Exit) (a : Act) (w' : World) (h : AQQ Try.prog (Bdf w F 40 27 X Y) (QF r e) x a w') : DQ w F (.rt [aRoom r, aI e]) x a w' := by
  obtain ⟨E, s, rfl, hG, hq⟩ := h
  cases x with
  | normal => exact do_good hG hq
  | ret => exact do_good hG hq
  | panic ch =>
    obtain ⟨⟨rfl, rfl⟩, h4, h5, g0, g1, r0, r1, r2, v, hb0, hb1⟩ := hq
    exact do_bad hG h4 h5 g0 g1 hb0 hb1
  | _ => exact hq.elim
theorem roomChk_or (r : RoomP) : roomChk r = 0 ∨ roomChk r = 540 := by unfold roomChk; split; exact .inr rfl; split; exact .inl rfl; exact .inr rfl
theorem gdo_spec (r : RoomP) (a : ActP) (ho : okRoom r) (hf : roomChk r = 0 → fewR r) (ha : hOk a.hand) (hk : Cd.i64R a.kind) : Spec Try.prog 12 [aRoom r, .agg (actD a)] (.rt [aRoom (doR r a), aI (doE r a)]) := by
  intro F w us hF hus
  refine callsIn_wide.1 (callsIn_of_wp_marks (F := Fence.wide) (n := 0) Try.func12 rfl trivial (Code.wpIn_mono (Q := DQ w F (.rt [aRoom (doR r a), aI (doE r a)])) (fun e a' w' hq => by cases e <;> first | exact hq | exact hq.elim) ?_) rfl)
  have hRet : ∀ s' E a', retQ T [.cell 4 31, .cell 5 48] (.rt [aRoom (doR r a), aI (doE r a)]) .ret s' → Gam Try.prog ⟨w, fun _ => False, F, 40, fun _ => undef, none, fun _ => False, []⟩ s' E a' → a'.defers = [] → DQ w F (.rt [aRoom (doR r a), aI (doE r a)]) .ret a' E.w := fun s' E a' hq hG hD => by
    show LeavesInM Fence.wide 0 Try.prog Try.f12 a'.tmps _ a'.defers .returning E.w
    rw [hD]
    exact leave_ret T_ok rfl rfl hG hq
  have hchk := gcheck_spec r ho
  have main : ∀ c, Try.f12.body = some c → AWx Try.prog ⟨w, fun _ => False, F, 40, fun _ => undef, none, fun _ => False, []⟩ c (DQ w F (.rt [aRoom (doR r a), aI (doE r a)])) ⟨⟩ ⟨inT 0 [aRoom r, .agg (actD a)], [], 0⟩ := by
    intro c hc
    dsimp only [Try.f12] at hc
    cases hc
    refine awx_seq hRet ?_
    repeat' (first | ((with_reducible refine two_intro ?_ ?_) <;> intro h <;> first | contradiction | ((first | (guard_hyp h : true = true; clear h) | (guard_hyp h : false = false; clear h)))) | ((with_reducible refine And.intro ?_ ?_); (focus (rfl))) | (with_reducible refine awd_seq ?_) | ((first | ((with_reducible refine awd_regionA T_ok ?_ ?_); kernel_rfl) | ((with_reducible refine awd_condM ?_ ?_); kernel_rfl) | (with_reducible refine awd_skip ?_) | (with_reducible refine awd_ret ?_)); simp only [↓avP, avQ, avR, forall_const, implies_true, Nat.reduceEqDiff, Nat.reduceAdd, Nat.reduceLeDiff, reduceCtorEq, avS, ty_31, ty_48]; try simp (disch := omega) only [av_w, av_t1, av_tp, Int.toNat_natCast]))
    refine awx_seq hRet ?_
    rcases roomChk_or r with h0 | h0
    · rw [h0] at hchk
      repeat' (first | ((with_reducible refine two_intro ?_ ?_) <;> intro h <;> first | contradiction | (((revert h; intro _)))) | (with_reducible refine awd_seq ?_) | ((first | ((with_reducible refine callI_spec (hchk) ?_ ?_ ?_ ?_); (focus (with_unfolding_all rfl)); kernel_rfl; kernel_rfl) | ((with_reducible refine awd_regionA T_ok ?_ ?_); kernel_rfl) | ((with_reducible refine awd_condM ?_ ?_); kernel_rfl) | (with_reducible refine awd_skip ?_) | (with_reducible refine awd_ret ?_)); simp only [↓avP, avQ, avR, forall_const, implies_true, Nat.reduceEqDiff, Nat.reduceAdd, Nat.reduceLeDiff, reduceCtorEq, avS, roomD_B, ty_31, ty_48]; try simp (disch := omega) only [av_w, av_t1, av_tp, Int.toNat_natCast]))
      refine awx_seq hRet ?_
      by_cases hoth : a.kind = 1 ∨ a.kind = 2 ∨ a.kind = 3 ∨ a.kind = 4 ∨ a.kind = 5
      · have hkr : 1 ≤ a.kind ∧ a.kind ≤ 5 := by omega
        have hclone := cloneP_spec (r.peers.map peerD) peer0 peer0 (by rw [List.length_map]; have := (netChk_of h0).2.1; omega)
        rcases hoth with hkk | hkk | hkk | hkk | hkk
        · repeat' (first | ((with_reducible refine And.intro ?_ ?_); (focus (first | exact keyOk_int_ | omega | rfl))) | ((((with_reducible refine awd_regionA T_ok ?_ ?_); kernel_rfl)); simp only [↓avP, avQ, avR, forall_const, implies_true, Nat.reduceEqDiff, Nat.reduceAdd, reduceCtorEq, Int.reduceEq, actS, ty_A, ty_3, ty_73, ty_69, hkk]; try simp (disch := omega) only [av_w, av_t1, av_tp, Int.toNat_natCast]))
          refine awx_seq hRet ?_
          repeat' (first | ((with_reducible refine two_intro ?_ ?_) <;> intro h <;> first | contradiction | ((first | (guard_hyp h : true = true; clear h) | (guard_hyp h : false = false; clear h)))) | ((with_reducible refine And.intro ?_ ?_); (focus (rfl))) | (with_reducible refine awd_seq ?_) | ((first | ((with_reducible refine awd_regionA T_ok ?_ ?_); kernel_rfl) | ((with_reducible refine awd_condM ?_ ?_); kernel_rfl) | (with_reducible refine awd_skip ?_) | (with_reducible refine awd_ret ?_)); simp only [↓avP, avQ, avR, forall_const, implies_true, Nat.reduceEqDiff, Nat.reduceAdd, Nat.reduceLeDiff, reduceCtorEq, avS, ty_31, ty_48]; try simp (disch := omega) only [av_w, av_t1, av_tp, Int.toNat_natCast]))
          refine awx_defer rfl rfl rfl rfl rfl rfl (n0 := 2) (n1 := 3) rfl rfl (by decide) (by decide) (by decide) rfl (fun X Y E a' hG => Code.wpIn_mono dq_of ((?_ : AW Try.prog (Bdf w F 40 27 X Y) _ (QF (doR r a) (doE r a)) ⟨⟩ _) E a' hG))
          by_cases hE : doE r a = 0
          · have hok := act_ok (w := w) (F := F) (d := dOf 27 X Y) (gh := gOfX X Y) ho h0 (hf h0) ha hE
            rw [hkk] at hok
            generalize doR r a = r1 at *
            rw [hE]
            repeat' (first | (with_reducible refine aw_seq ?_) | (with_reducible refine aw_stop (id := 10) ?_) | ((with_reducible refine And.intro ?_ ?_); (focus (rfl))) | ((first | ((with_reducible refine aw_regionA T_ok ?_ ?_); kernel_rfl) | ((with_reducible refine callI_own (hclone) (by repeat' (first | exact ta_n | refine ta_d ?_)) ?_ ?_ ?_); kernel_rfl; kernel_rfl)); simp only [↓avP, avQ, avR, forall_const, implies_true, Nat.reduceEqDiff, Nat.reduceAdd, Nat.reduceLeDiff, reduceCtorEq, roomD_B, ty_31, ty_75, ty_25, setT]; try simp (disch := omega) only [av_w, av_t1, av_tp, Int.toNat_natCast]))
            refine ⟨?_⟩
            refine aw_regionA T_ok ?_ ?_
            · kernel_rfl
            simp only [↓avP, avQ, avR, forall_const, implies_true, reduceIte, Nat.reduceEqDiff, Nat.reduceAdd, Nat.reduceSub, Int.reduceToNat, Nat.reduceLeDiff, Nat.reduceLT, reduceCtorEq, Int.reduceEq, avS, actS, ↓zA_one, ↓zA_cells, zA_map, ↓zA_D, ty_A, ↓rwpP.eq_def, inP, roomD_B, handS, hd_dr, ↓zH_one, ↓zH_cells, zH_map, ↓zH_D, List.append_nil, ty_H, ty_3, ty_4, ty_31, ty_75, ty_72, ty_25, ty_55, ty_32, ty_29, ty_26, ty_63, ty_48, ty_23, ty_73, ty_69]
            refine callI_wk (s1 := sTo r1) (callI_wkS [(0, some 2), (1, some 3), (2, some 5), (3, some 6)] rfl rfl ?_ ?_ ?_ hok) ?_
            · simp only [wkA, reduceIte, Nat.reduceEqDiff]
              (repeat' (first | exact subVs_fl _ _ | exact subVs_d _ _ | rfl | refine And.intro ?_ ?_))
            · simp only [wkA, reduceIte, Nat.reduceEqDiff]
              (repeat' (first | exact subVs_fl _ _ | exact subVs_d _ _ | rfl | refine And.intro ?_ ?_))
            · simp only [wkA, reduceIte, Nat.reduceEqDiff]
              (repeat' (first | exact subVs_fl _ _ | exact subVs_d _ _ | rfl | refine And.intro ?_ ?_))
            simp only [↓avP, avQ, avR, forall_const, implies_true, reduceIte, Nat.reduceEqDiff, Nat.reduceAdd, Nat.reduceSub, Int.reduceToNat, Nat.reduceLeDiff, Nat.reduceLT, reduceCtorEq, Int.reduceEq, avS, actS, ↓zA_one, ↓zA_cells, zA_map, ↓zA_D, ty_A, ↓rwpP.eq_def, inP, roomD_B, handS, hd_dr, ↓zH_one, ↓zH_cells, zH_map, ↓zH_D, List.append_nil, ty_H, ty_3, ty_4, ty_31, ty_75, ty_72, ty_25, ty_55, ty_32, ty_29, ty_26, ty_63, ty_48, ty_23, ty_73, ty_69]
            refine aw_seq ?_
            refine aw_frzD 3 peer0 (r1.peers.map peerD) rfl rfl ?_
            simp only [frzS, frzM, frzK, frz1, frz2, frz_dV, List.map_cons, List.map_nil, setB, reduceIte, Nat.reduceEqDiff]
            repeat' (((first | ((with_reducible refine aw_regionA T_ok ?_ ?_); kernel_rfl) | (with_reducible refine aw_ret ?_) ); simp only [↓avP, avQ, avR, forall_const, implies_true, Nat.reduceEqDiff, Nat.reduceAdd, Nat.reduceLeDiff, reduceCtorEq, ty_31, ty_75, ty_48]; try simp (disch := omega) only [av_w, av_t1, av_tp, Int.toNat_natCast]))
            refine aw_ret ?_
            unfold QF
            simp only [↓avP, avQ, avR, forall_const, implies_true, reduceIte, Nat.reduceEqDiff, Nat.reduceAdd, Nat.reduceSub, Int.reduceToNat, Nat.reduceLeDiff, Nat.reduceLT, reduceCtorEq, Int.reduceEq, avS, actS, ↓zA_one, ↓zA_cells, zA_map, ↓zA_D, ty_A, ↓rwpP.eq_def, inP, roomD_B, handS, hd_dr, ↓zH_one, ↓zH_cells, zH_map, ↓zH_D, List.append_nil, ty_H, ty_3, ty_4, ty_31, ty_75, ty_72, ty_25, ty_55, ty_32, ty_29, ty_26, ty_63, ty_48, ty_23, ty_73, ty_69]
            exact ⟨Sub.of_eq rfl, Sub.refl _⟩
          · have hno := act_no (w := w) (F := F) (d := dOf 27 X Y) (gh := gOfX X Y) ho h0 ha hkr hE
            have hR : doR r a = room0 := by rw [doR, if_neg hE]
            rw [hkk] at hno
            generalize doE r a = e at *
            repeat' (first | (with_reducible refine aw_seq ?_) | (with_reducible refine aw_stop (id := 10) ?_) | ((with_reducible refine And.intro ?_ ?_); (focus (rfl))) | ((first | ((with_reducible refine aw_regionA T_ok ?_ ?_); kernel_rfl) | ((with_reducible refine callI_own (hclone) (by repeat' (first | exact ta_n | refine ta_d ?_)) ?_ ?_ ?_); kernel_rfl; kernel_rfl)); simp only [↓avP, avQ, avR, forall_const, implies_true, Nat.reduceEqDiff, Nat.reduceAdd, Nat.reduceLeDiff, reduceCtorEq, roomD_B, ty_31, ty_75, ty_25, setT]; try simp (disch := omega) only [av_w, av_t1, av_tp, Int.toNat_natCast]))
            refine ⟨?_⟩
            refine aw_regionP (errP e) T_ok ?_ ?_
            · kernel_rfl
            simp only [↓avP, avQ, avR, forall_const, implies_true, reduceIte, Nat.reduceEqDiff, Nat.reduceAdd, Nat.reduceSub, Int.reduceToNat, Nat.reduceLeDiff, Nat.reduceLT, reduceCtorEq, Int.reduceEq, avS, actS, ↓zA_one, ↓zA_cells, zA_map, ↓zA_D, ty_A, ↓rwpP.eq_def, inP, roomD_B, handS, hd_dr, ↓zH_one, ↓zH_cells, zH_map, ↓zH_D, List.append_nil, ty_H, ty_3, ty_4, ty_31, ty_75, ty_72, ty_25, ty_55, ty_32, ty_29, ty_26, ty_63, ty_48, ty_23, ty_73, ty_69]
            refine callP_wk (s1 := sBad) (callP_wkS [(0, some 2), (1, some 3), (2, some 5), (3, some 6)] rfl rfl ?_ ?_ ?_ hno) ?_
            · simp only [wkA, reduceIte, Nat.reduceEqDiff]
              (repeat' (first | exact subVs_fl _ _ | exact subVs_d _ _ | rfl | refine And.intro ?_ ?_))
            · simp only [wkA, reduceIte, Nat.reduceEqDiff]
              (repeat' (first | exact subVs_fl _ _ | exact subVs_d _ _ | rfl | refine And.intro ?_ ?_))
            · simp only [wkA, reduceIte, Nat.reduceEqDiff]
              (repeat' (first | exact subVs_fl _ _ | exact subVs_d _ _ | rfl | refine And.intro ?_ ?_))
            exact ⟨⟨rfl, hR⟩, rfl, rfl, rfl, rfl, _, _, _, _, rfl, rfl⟩
        · repeat' (first | ((with_reducible refine And.intro ?_ ?_); (focus (first | exact keyOk_int_ | omega | rfl))) | ((((with_reducible refine awd_regionA T_ok ?_ ?_); kernel_rfl)); simp only [↓avP, avQ, avR, forall_const, implies_true, Nat.reduceEqDiff, Nat.reduceAdd, reduceCtorEq, Int.reduceEq, actS, ty_A, ty_3, ty_73, ty_69, hkk]; try simp (disch := omega) only [av_w, av_t1, av_tp, Int.toNat_natCast]))
          refine awx_seq hRet ?_
          repeat' (first | ((with_reducible refine two_intro ?_ ?_) <;> intro h <;> first | contradiction | ((first | (guard_hyp h : true = true; clear h) | (guard_hyp h : false = false; clear h)))) | ((with_reducible refine And.intro ?_ ?_); (focus (rfl))) | (with_reducible refine awd_seq ?_) | ((first | ((with_reducible refine awd_regionA T_ok ?_ ?_); kernel_rfl) | ((with_reducible refine awd_condM ?_ ?_); kernel_rfl) | (with_reducible refine awd_skip ?_) | (with_reducible refine awd_ret ?_)); simp only [↓avP, avQ, avR, forall_const, implies_true, Nat.reduceEqDiff, Nat.reduceAdd, Nat.reduceLeDiff, reduceCtorEq, avS, ty_31, ty_48]; try simp (disch := omega) only [av_w, av_t1, av_tp, Int.toNat_natCast]))
          refine awx_defer rfl rfl rfl rfl rfl rfl (n0 := 2) (n1 := 3) rfl rfl (by decide) (by decide) (by decide) rfl (fun X Y E a' hG => Code.wpIn_mono dq_of ((?_ : AW Try.prog (Bdf w F 40 27 X Y) _ (QF (doR r a) (doE r a)) ⟨⟩ _) E a' hG))
          by_cases hE : doE r a = 0
          · have hok := act_ok (w := w) (F := F) (d := dOf 27 X Y) (gh := gOfX X Y) ho h0 (hf h0) ha hE
            rw [hkk] at hok
            generalize doR r a = r1 at *
            rw [hE]
            repeat' (first | (with_reducible refine aw_seq ?_) | (with_reducible refine aw_stop (id := 10) ?_) | ((with_reducible refine And.intro ?_ ?_); (focus (rfl))) | ((first | ((with_reducible refine aw_regionA T_ok ?_ ?_); kernel_rfl) | ((with_reducible refine callI_own (hclone) (by repeat' (first | exact ta_n | refine ta_d ?_)) ?_ ?_ ?_); kernel_rfl; kernel_rfl)); simp only [↓avP, avQ, avR, forall_const, implies_true, Nat.reduceEqDiff, Nat.reduceAdd, Nat.reduceLeDiff, reduceCtorEq, roomD_B, ty_31, ty_75, ty_25, setT]; try simp (disch := omega) only [av_w, av_t1, av_tp, Int.toNat_natCast]))
            refine ⟨?_⟩
            refine aw_regionA T_ok ?_ ?_
            · kernel_rfl
            simp only [↓avP, avQ, avR, forall_const, implies_true, reduceIte, Nat.reduceEqDiff, Nat.reduceAdd, Nat.reduceSub, Int.reduceToNat, Nat.reduceLeDiff, Nat.reduceLT, reduceCtorEq, Int.reduceEq, avS, actS, ↓zA_one, ↓zA_cells, zA_map, ↓zA_D, ty_A, ↓rwpP.eq_def, inP, roomD_B, handS, hd_dr, ↓zH_one, ↓zH_cells, zH_map, ↓zH_D, List.append_nil, ty_H, ty_3, ty_4, ty_31, ty_75, ty_72, ty_25, ty_55, ty_32, ty_29, ty_26, ty_63, ty_48, ty_23, ty_73, ty_69]
            refine callI_wk (s1 := sTo r1) (callI_wkS [(0, some 2), (1, some 3), (2, some 5), (3, some 6)] rfl rfl ?_ ?_ ?_ hok) ?_
            · simp only [wkA, reduceIte, Nat.reduceEqDiff]
              (repeat' (first | exact subVs_fl _ _ | exact subVs_d _ _ | rfl | refine And.intro ?_ ?_))
            · simp only [wkA, reduceIte, Nat.reduceEqDiff]
              (repeat' (first | exact subVs_fl _ _ | exact subVs_d _ _ | rfl | refine And.intro ?_ ?_))
            · simp only [wkA, reduceIte, Nat.reduceEqDiff]
              (repeat' (first | exact subVs_fl _ _ | exact subVs_d _ _ | rfl | refine And.intro ?_ ?_))
            simp only [↓avP, avQ, avR, forall_const, implies_true, reduceIte, Nat.reduceEqDiff, Nat.reduceAdd, Nat.reduceSub, Int.reduceToNat, Nat.reduceLeDiff, Nat.reduceLT, reduceCtorEq, Int.reduceEq, avS, actS, ↓zA_one, ↓zA_cells, zA_map, ↓zA_D, ty_A, ↓rwpP.eq_def, inP, roomD_B, handS, hd_dr, ↓zH_one, ↓zH_cells, zH_map, ↓zH_D, List.append_nil, ty_H, ty_3, ty_4, ty_31, ty_75, ty_72, ty_25, ty_55, ty_32, ty_29, ty_26, ty_63, ty_48, ty_23, ty_73, ty_69]
            refine aw_seq ?_
            refine aw_frzD 3 peer0 (r1.peers.map peerD) rfl rfl ?_
            simp only [frzS, frzM, frzK, frz1, frz2, frz_dV, List.map_cons, List.map_nil, setB, reduceIte, Nat.reduceEqDiff]
            repeat' (((first | ((with_reducible refine aw_regionA T_ok ?_ ?_); kernel_rfl) | (with_reducible refine aw_ret ?_) ); simp only [↓avP, avQ, avR, forall_const, implies_true, Nat.reduceEqDiff, Nat.reduceAdd, Nat.reduceLeDiff, reduceCtorEq, ty_31, ty_75, ty_48]; try simp (disch := omega) only [av_w, av_t1, av_tp, Int.toNat_natCast]))
            refine aw_ret ?_
            unfold QF
            simp only [↓avP, avQ, avR, forall_const, implies_true, reduceIte, Nat.reduceEqDiff, Nat.reduceAdd, Nat.reduceSub, Int.reduceToNat, Nat.reduceLeDiff, Nat.reduceLT, reduceCtorEq, Int.reduceEq, avS, actS, ↓zA_one, ↓zA_cells, zA_map, ↓zA_D, ty_A, ↓rwpP.eq_def, inP, roomD_B, handS, hd_dr, ↓zH_one, ↓zH_cells, zH_map, ↓zH_D, List.append_nil, ty_H, ty_3, ty_4, ty_31, ty_75, ty_72, ty_25, ty_55, ty_32, ty_29, ty_26, ty_63, ty_48, ty_23, ty_73, ty_69]
            exact ⟨Sub.of_eq rfl, Sub.refl _⟩
          · have hno := act_no (w := w) (F := F) (d := dOf 27 X Y) (gh := gOfX X Y) ho h0 ha hkr hE
            have hR : doR r a = room0 := by rw [doR, if_neg hE]
            rw [hkk] at hno
            generalize doE r a = e at *
            repeat' (first | (with_reducible refine aw_seq ?_) | (with_reducible refine aw_stop (id := 10) ?_) | ((with_reducible refine And.intro ?_ ?_); (focus (rfl))) | ((first | ((with_reducible refine aw_regionA T_ok ?_ ?_); kernel_rfl) | ((with_reducible refine callI_own (hclone) (by repeat' (first | exact ta_n | refine ta_d ?_)) ?_ ?_ ?_); kernel_rfl; kernel_rfl)); simp only [↓avP, avQ, avR, forall_const, implies_true, Nat.reduceEqDiff, Nat.reduceAdd, Nat.reduceLeDiff, reduceCtorEq, roomD_B, ty_31, ty_75, ty_25, setT]; try simp (disch := omega) only [av_w, av_t1, av_tp, Int.toNat_natCast]))
            refine ⟨?_⟩
            refine aw_regionP (errP e) T_ok ?_ ?_
            · kernel_rfl
            simp only [↓avP, avQ, avR, forall_const, implies_true, reduceIte, Nat.reduceEqDiff, Nat.reduceAdd, Nat.reduceSub, Int.reduceToNat, Nat.reduceLeDiff, Nat.reduceLT, reduceCtorEq, Int.reduceEq, avS, actS, ↓zA_one, ↓zA_cells, zA_map, ↓zA_D, ty_A, ↓rwpP.eq_def, inP, roomD_B, handS, hd_dr, ↓zH_one, ↓zH_cells, zH_map, ↓zH_D, List.append_nil, ty_H, ty_3, ty_4, ty_31, ty_75, ty_72, ty_25, ty_55, ty_32, ty_29, ty_26, ty_63, ty_48, ty_23, ty_73, ty_69]
            refine callP_wk (s1 := sBad) (callP_wkS [(0, some 2), (1, some 3), (2, some 5), (3, some 6)] rfl rfl ?_ ?_ ?_ hno) ?_
            · simp only [wkA, reduceIte, Nat.reduceEqDiff]
              (repeat' (first | exact subVs_fl _ _ | exact subVs_d _ _ | rfl | refine And.intro ?_ ?_))
            · simp only [wkA, reduceIte, Nat.reduceEqDiff]
              (repeat' (first | exact subVs_fl _ _ | exact subVs_d _ _ | rfl | refine And.intro ?_ ?_))
            · simp only [wkA, reduceIte, Nat.reduceEqDiff]
              (repeat' (first | exact subVs_fl _ _ | exact subVs_d _ _ | rfl | refine And.intro ?_ ?_))
            exact ⟨⟨rfl, hR⟩, rfl, rfl, rfl, rfl, _, _, _, _, rfl, rfl⟩
        · repeat' (first | ((with_reducible refine And.intro ?_ ?_); (focus (first | exact keyOk_int_ | omega | rfl))) | ((((with_reducible refine awd_regionA T_ok ?_ ?_); kernel_rfl)); simp only [↓avP, avQ, avR, forall_const, implies_true, Nat.reduceEqDiff, Nat.reduceAdd, reduceCtorEq, Int.reduceEq, actS, ty_A, ty_3, ty_73, ty_69, hkk]; try simp (disch := omega) only [av_w, av_t1, av_tp, Int.toNat_natCast]))
          refine awx_seq hRet ?_
          repeat' (first | ((with_reducible refine two_intro ?_ ?_) <;> intro h <;> first | contradiction | ((first | (guard_hyp h : true = true; clear h) | (guard_hyp h : false = false; clear h)))) | ((with_reducible refine And.intro ?_ ?_); (focus (rfl))) | (with_reducible refine awd_seq ?_) | ((first | ((with_reducible refine awd_regionA T_ok ?_ ?_); kernel_rfl) | ((with_reducible refine awd_condM ?_ ?_); kernel_rfl) | (with_reducible refine awd_skip ?_) | (with_reducible refine awd_ret ?_)); simp only [↓avP, avQ, avR, forall_const, implies_true, Nat.reduceEqDiff, Nat.reduceAdd, Nat.reduceLeDiff, reduceCtorEq, avS, ty_31, ty_48]; try simp (disch := omega) only [av_w, av_t1, av_tp, Int.toNat_natCast]))
          refine awx_defer rfl rfl rfl rfl rfl rfl (n0 := 2) (n1 := 3) rfl rfl (by decide) (by decide) (by decide) rfl (fun X Y E a' hG => Code.wpIn_mono dq_of ((?_ : AW Try.prog (Bdf w F 40 27 X Y) _ (QF (doR r a) (doE r a)) ⟨⟩ _) E a' hG))
          by_cases hE : doE r a = 0
          · have hok := act_ok (w := w) (F := F) (d := dOf 27 X Y) (gh := gOfX X Y) ho h0 (hf h0) ha hE
            rw [hkk] at hok
            generalize doR r a = r1 at *
            rw [hE]
            repeat' (first | (with_reducible refine aw_seq ?_) | (with_reducible refine aw_stop (id := 10) ?_) | ((with_reducible refine And.intro ?_ ?_); (focus (rfl))) | ((first | ((with_reducible refine aw_regionA T_ok ?_ ?_); kernel_rfl) | ((with_reducible refine callI_own (hclone) (by repeat' (first | exact ta_n | refine ta_d ?_)) ?_ ?_ ?_); kernel_rfl; kernel_rfl)); simp only [↓avP, avQ, avR, forall_const, implies_true, Nat.reduceEqDiff, Nat.reduceAdd, Nat.reduceLeDiff, reduceCtorEq, roomD_B, ty_31, ty_75, ty_25, setT]; try simp (disch := omega) only [av_w, av_t1, av_tp, Int.toNat_natCast]))
            refine ⟨?_⟩
            refine aw_regionA T_ok ?_ ?_
            · kernel_rfl
            simp only [↓avP, avQ, avR, forall_const, implies_true, reduceIte, Nat.reduceEqDiff, Nat.reduceAdd, Nat.reduceSub, Int.reduceToNat, Nat.reduceLeDiff, Nat.reduceLT, reduceCtorEq, Int.reduceEq, avS, actS, ↓zA_one, ↓zA_cells, zA_map, ↓zA_D, ty_A, ↓rwpP.eq_def, inP, roomD_B, handS, hd_dr, ↓zH_one, ↓zH_cells, zH_map, ↓zH_D, List.append_nil, ty_H, ty_3, ty_4, ty_31, ty_75, ty_72, ty_25, ty_55, ty_32, ty_29, ty_26, ty_63, ty_48, ty_23, ty_73, ty_69]
            refine callI_wk (s1 := sTo r1) (callI_wkS [(0, some 2), (1, some 3), (2, some 5), (3, some 6)] rfl rfl ?_ ?_ ?_ hok) ?_
            · simp only [wkA, reduceIte, Nat.reduceEqDiff]
              (repeat' (first | exact subVs_fl _ _ | exact subVs_d _ _ | rfl | refine And.intro ?_ ?_))
            · simp only [wkA, reduceIte, Nat.reduceEqDiff]
              (repeat' (first | exact subVs_fl _ _ | exact subVs_d _ _ | rfl | refine And.intro ?_ ?_))
            · simp only [wkA, reduceIte, Nat.reduceEqDiff]
              (repeat' (first | exact subVs_fl _ _ | exact subVs_d _ _ | rfl | refine And.intro ?_ ?_))
            simp only [↓avP, avQ, avR, forall_const, implies_true, reduceIte, Nat.reduceEqDiff, Nat.reduceAdd, Nat.reduceSub, Int.reduceToNat, Nat.reduceLeDiff, Nat.reduceLT, reduceCtorEq, Int.reduceEq, avS, actS, ↓zA_one, ↓zA_cells, zA_map, ↓zA_D, ty_A, ↓rwpP.eq_def, inP, roomD_B, handS, hd_dr, ↓zH_one, ↓zH_cells, zH_map, ↓zH_D, List.append_nil, ty_H, ty_3, ty_4, ty_31, ty_75, ty_72, ty_25, ty_55, ty_32, ty_29, ty_26, ty_63, ty_48, ty_23, ty_73, ty_69]
            refine aw_seq ?_
            refine aw_frzD 3 peer0 (r1.peers.map peerD) rfl rfl ?_
            simp only [frzS, frzM, frzK, frz1, frz2, frz_dV, List.map_cons, List.map_nil, setB, reduceIte, Nat.reduceEqDiff]
            repeat' (((first | ((with_reducible refine aw_regionA T_ok ?_ ?_); kernel_rfl) | (with_reducible refine aw_ret ?_) ); simp only [↓avP, avQ, avR, forall_const, implies_true, Nat.reduceEqDiff, Nat.reduceAdd, Nat.reduceLeDiff, reduceCtorEq, ty_31, ty_75, ty_48]; try simp (disch := omega) only [av_w, av_t1, av_tp, Int.toNat_natCast]))
            refine aw_ret ?_
            unfold QF
            simp only [↓avP, avQ, avR, forall_const, implies_true, reduceIte, Nat.reduceEqDiff, Nat.reduceAdd, Nat.reduceSub, Int.reduceToNat, Nat.reduceLeDiff, Nat.reduceLT, reduceCtorEq, Int.reduceEq, avS, actS, ↓zA_one, ↓zA_cells, zA_map, ↓zA_D, ty_A, ↓rwpP.eq_def, inP, roomD_B, handS, hd_dr, ↓zH_one, ↓zH_cells, zH_map, ↓zH_D, List.append_nil, ty_H, ty_3, ty_4, ty_31, ty_75, ty_72, ty_25, ty_55, ty_32, ty_29, ty_26, ty_63, ty_48, ty_23, ty_73, ty_69]
            exact ⟨Sub.of_eq rfl, Sub.refl _⟩
          · have hno := act_no (w := w) (F := F) (d := dOf 27 X Y) (gh := gOfX X Y) ho h0 ha hkr hE
            have hR : doR r a = room0 := by rw [doR, if_neg hE]
            rw [hkk] at hno
            generalize doE r a = e at *
            repeat' (first | (with_reducible refine aw_seq ?_) | (with_reducible refine aw_stop (id := 10) ?_) | ((with_reducible refine And.intro ?_ ?_); (focus (rfl))) | ((first | ((with_reducible refine aw_regionA T_ok ?_ ?_); kernel_rfl) | ((with_reducible refine callI_own (hclone) (by repeat' (first | exact ta_n | refine ta_d ?_)) ?_ ?_ ?_); kernel_rfl; kernel_rfl)); simp only [↓avP, avQ, avR, forall_const, implies_true, Nat.reduceEqDiff, Nat.reduceAdd, Nat.reduceLeDiff, reduceCtorEq, roomD_B, ty_31, ty_75, ty_25, setT]; try simp (disch := omega) only [av_w, av_t1, av_tp, Int.toNat_natCast]))
            refine ⟨?_⟩
            refine aw_regionP (errP e) T_ok ?_ ?_
            · kernel_rfl
            simp only [↓avP, avQ, avR, forall_const, implies_true, reduceIte, Nat.reduceEqDiff, Nat.reduceAdd, Nat.reduceSub, Int.reduceToNat, Nat.reduceLeDiff, Nat.reduceLT, reduceCtorEq, Int.reduceEq, avS, actS, ↓zA_one, ↓zA_cells, zA_map, ↓zA_D, ty_A, ↓rwpP.eq_def, inP, roomD_B, handS, hd_dr, ↓zH_one, ↓zH_cells, zH_map, ↓zH_D, List.append_nil, ty_H, ty_3, ty_4, ty_31, ty_75, ty_72, ty_25, ty_55, ty_32, ty_29, ty_26, ty_63, ty_48, ty_23, ty_73, ty_69]
            refine callP_wk (s1 := sBad) (callP_wkS [(0, some 2), (1, some 3), (2, some 5), (3, some 6)] rfl rfl ?_ ?_ ?_ hno) ?_
            · simp only [wkA, reduceIte, Nat.reduceEqDiff]
              (repeat' (first | exact subVs_fl _ _ | exact subVs_d _ _ | rfl | refine And.intro ?_ ?_))
            · simp only [wkA, reduceIte, Nat.reduceEqDiff]
              (repeat' (first | exact subVs_fl _ _ | exact subVs_d _ _ | rfl | refine And.intro ?_ ?_))
            · simp only [wkA, reduceIte, Nat.reduceEqDiff]
              (repeat' (first | exact subVs_fl _ _ | exact subVs_d _ _ | rfl | refine And.intro ?_ ?_))
            exact ⟨⟨rfl, hR⟩, rfl, rfl, rfl, rfl, _, _, _, _, rfl, rfl⟩
        · repeat' (first | ((with_reducible refine And.intro ?_ ?_); (focus (first | exact keyOk_int_ | omega | rfl))) | ((((with_reducible refine awd_regionA T_ok ?_ ?_); kernel_rfl)); simp only [↓avP, avQ, avR, forall_const, implies_true, Nat.reduceEqDiff, Nat.reduceAdd, reduceCtorEq, Int.reduceEq, actS, ty_A, ty_3, ty_73, ty_69, hkk]; try simp (disch := omega) only [av_w, av_t1, av_tp, Int.toNat_natCast]))
          refine awx_seq hRet ?_
          repeat' (first | ((with_reducible refine two_intro ?_ ?_) <;> intro h <;> first | contradiction | ((first | (guard_hyp h : true = true; clear h) | (guard_hyp h : false = false; clear h)))) | ((with_reducible refine And.intro ?_ ?_); (focus (rfl))) | (with_reducible refine awd_seq ?_) | ((first | ((with_reducible refine awd_regionA T_ok ?_ ?_); kernel_rfl) | ((with_reducible refine awd_condM ?_ ?_); kernel_rfl) | (with_reducible refine awd_skip ?_) | (with_reducible refine awd_ret ?_)); simp only [↓avP, avQ, avR, forall_const, implies_true, Nat.reduceEqDiff, Nat.reduceAdd, Nat.reduceLeDiff, reduceCtorEq, avS, ty_31, ty_48]; try simp (disch := omega) only [av_w, av_t1, av_tp, Int.toNat_natCast]))
          refine awx_defer rfl rfl rfl rfl rfl rfl (n0 := 2) (n1 := 3) rfl rfl (by decide) (by decide) (by decide) rfl (fun X Y E a' hG => Code.wpIn_mono dq_of ((?_ : AW Try.prog (Bdf w F 40 27 X Y) _ (QF (doR r a) (doE r a)) ⟨⟩ _) E a' hG))
          by_cases hE : doE r a = 0
          · have hok := act_ok (w := w) (F := F) (d := dOf 27 X Y) (gh := gOfX X Y) ho h0 (hf h0) ha hE
            rw [hkk] at hok
            generalize doR r a = r1 at *
            rw [hE]
            repeat' (first | (with_reducible refine aw_seq ?_) | (with_reducible refine aw_stop (id := 10) ?_) | ((with_reducible refine And.intro ?_ ?_); (focus (rfl))) | ((first | ((with_reducible refine aw_regionA T_ok ?_ ?_); kernel_rfl) | ((with_reducible refine callI_own (hclone) (by repeat' (first | exact ta_n | refine ta_d ?_)) ?_ ?_ ?_); kernel_rfl; kernel_rfl)); simp only [↓avP, avQ, avR, forall_const, implies_true, Nat.reduceEqDiff, Nat.reduceAdd, Nat.reduceLeDiff, reduceCtorEq, roomD_B, ty_31, ty_75, ty_25, setT]; try simp (disch := omega) only [av_w, av_t1, av_tp, Int.toNat_natCast]))
            refine ⟨?_⟩
            refine aw_regionA T_ok ?_ ?_
            · kernel_rfl
            simp only [↓avP, avQ, avR, forall_const, implies_true, reduceIte, Nat.reduceEqDiff, Nat.reduceAdd, Nat.reduceSub, Int.reduceToNat, Nat.reduceLeDiff, Nat.reduceLT, reduceCtorEq, Int.reduceEq, avS, actS, ↓zA_one, ↓zA_cells, zA_map, ↓zA_D, ty_A, ↓rwpP.eq_def, inP, roomD_B, handS, hd_dr, ↓zH_one, ↓zH_cells, zH_map, ↓zH_D, List.append_nil, ty_H, ty_3, ty_4, ty_31, ty_75, ty_72, ty_25, ty_55, ty_32, ty_29, ty_26, ty_63, ty_48, ty_23, ty_73, ty_69]
            refine callI_wk (s1 := sTo r1) (callI_wkS [(0, some 2), (1, some 3), (2, some 5), (3, some 6)] rfl rfl ?_ ?_ ?_ hok) ?_
            · simp only [wkA, reduceIte, Nat.reduceEqDiff]
              (repeat' (first | exact subVs_fl _ _ | exact subVs_d _ _ | rfl | refine And.intro ?_ ?_))
            · simp only [wkA, reduceIte, Nat.reduceEqDiff]
              (repeat' (first | exact subVs_fl _ _ | exact subVs_d _ _ | rfl | refine And.intro ?_ ?_))
            · simp only [wkA, reduceIte, Nat.reduceEqDiff]
              (repeat' (first | exact subVs_fl _ _ | exact subVs_d _ _ | rfl | refine And.intro ?_ ?_))
            simp only [↓avP, avQ, avR, forall_const, implies_true, reduceIte, Nat.reduceEqDiff, Nat.reduceAdd, Nat.reduceSub, Int.reduceToNat, Nat.reduceLeDiff, Nat.reduceLT, reduceCtorEq, Int.reduceEq, avS, actS, ↓zA_one, ↓zA_cells, zA_map, ↓zA_D, ty_A, ↓rwpP.eq_def, inP, roomD_B, handS, hd_dr, ↓zH_one, ↓zH_cells, zH_map, ↓zH_D, List.append_nil, ty_H, ty_3, ty_4, ty_31, ty_75, ty_72, ty_25, ty_55, ty_32, ty_29, ty_26, ty_63, ty_48, ty_23, ty_73, ty_69]
            refine aw_seq ?_
            refine aw_frzD 3 peer0 (r1.peers.map peerD) rfl rfl ?_
            simp only [frzS, frzM, frzK, frz1, frz2, frz_dV, List.map_cons, List.map_nil, setB, reduceIte, Nat.reduceEqDiff]
            repeat' (((first | ((with_reducible refine aw_regionA T_ok ?_ ?_); kernel_rfl) | (with_reducible refine aw_ret ?_) ); simp only [↓avP, avQ, avR, forall_const, implies_true, Nat.reduceEqDiff, Nat.reduceAdd, Nat.reduceLeDiff, reduceCtorEq, ty_31, ty_75, ty_48]; try simp (disch := omega) only [av_w, av_t1, av_tp, Int.toNat_natCast]))
            refine aw_ret ?_
            unfold QF
            simp only [↓avP, avQ, avR, forall_const, implies_true, reduceIte, Nat.reduceEqDiff, Nat.reduceAdd, Nat.reduceSub, Int.reduceToNat, Nat.reduceLeDiff, Nat.reduceLT, reduceCtorEq, Int.reduceEq, avS, actS, ↓zA_one, ↓zA_cells, zA_map, ↓zA_D, ty_A, ↓rwpP.eq_def, inP, roomD_B, handS, hd_dr, ↓zH_one, ↓zH_cells, zH_map, ↓zH_D, List.append_nil, ty_H, ty_3, ty_4, ty_31, ty_75, ty_72, ty_25, ty_55, ty_32, ty_29, ty_26, ty_63, ty_48, ty_23, ty_73, ty_69]
            exact ⟨Sub.of_eq rfl, Sub.refl _⟩
          · have hno := act_no (w := w) (F := F) (d := dOf 27 X Y) (gh := gOfX X Y) ho h0 ha hkr hE
            have hR : doR r a = room0 := by rw [doR, if_neg hE]
            rw [hkk] at hno
            generalize doE r a = e at *
            repeat' (first | (with_reducible refine aw_seq ?_) | (with_reducible refine aw_stop (id := 10) ?_) | ((with_reducible refine And.intro ?_ ?_); (focus (rfl))) | ((first | ((with_reducible refine aw_regionA T_ok ?_ ?_); kernel_rfl) | ((with_reducible refine callI_own (hclone) (by repeat' (first | exact ta_n | refine ta_d ?_)) ?_ ?_ ?_); kernel_rfl; kernel_rfl)); simp only [↓avP, avQ, avR, forall_const, implies_true, Nat.reduceEqDiff, Nat.reduceAdd, Nat.reduceLeDiff, reduceCtorEq, roomD_B, ty_31, ty_75, ty_25, setT]; try simp (disch := omega) only [av_w, av_t1, av_tp, Int.toNat_natCast]))
            refine ⟨?_⟩
            refine aw_regionP (errP e) T_ok ?_ ?_
            · kernel_rfl
            simp only [↓avP, avQ, avR, forall_const, implies_true, reduceIte, Nat.reduceEqDiff, Nat.reduceAdd, Nat.reduceSub, Int.reduceToNat, Nat.reduceLeDiff, Nat.reduceLT, reduceCtorEq, Int.reduceEq, avS, actS, ↓zA_one, ↓zA_cells, zA_map, ↓zA_D, ty_A, ↓rwpP.eq_def, inP, roomD_B, handS, hd_dr, ↓zH_one, ↓zH_cells, zH_map, ↓zH_D, List.append_nil, ty_H, ty_3, ty_4, ty_31, ty_75, ty_72, ty_25, ty_55, ty_32, ty_29, ty_26, ty_63, ty_48, ty_23, ty_73, ty_69]
            refine callP_wk (s1 := sBad) (callP_wkS [(0, some 2), (1, some 3), (2, some 5), (3, some 6)] rfl rfl ?_ ?_ ?_ hno) ?_
            · simp only [wkA, reduceIte, Nat.reduceEqDiff]
              (repeat' (first | exact subVs_fl _ _ | exact subVs_d _ _ | rfl | refine And.intro ?_ ?_))
            · simp only [wkA, reduceIte, Nat.reduceEqDiff]
              (repeat' (first | exact subVs_fl _ _ | exact subVs_d _ _ | rfl | refine And.intro ?_ ?_))
            · simp only [wkA, reduceIte, Nat.reduceEqDiff]
              (repeat' (first | exact subVs_fl _ _ | exact subVs_d _ _ | rfl | refine And.intro ?_ ?_))
            exact ⟨⟨rfl, hR⟩, rfl, rfl, rfl, rfl, _, _, _, _, rfl, rfl⟩
        · repeat' (first | ((with_reducible refine And.intro ?_ ?_); (focus (first | exact keyOk_int_ | omega | rfl))) | ((((with_reducible refine awd_regionA T_ok ?_ ?_); kernel_rfl)); simp only [↓avP, avQ, avR, forall_const, implies_true, Nat.reduceEqDiff, Nat.reduceAdd, reduceCtorEq, Int.reduceEq, actS, ty_A, ty_3, ty_73, ty_69, hkk]; try simp (disch := omega) only [av_w, av_t1, av_tp, Int.toNat_natCast]))
          refine awx_seq hRet ?_
          repeat' (first | ((with_reducible refine two_intro ?_ ?_) <;> intro h <;> first | contradiction | ((first | (guard_hyp h : true = true; clear h) | (guard_hyp h : false = false; clear h)))) | ((with_reducible refine And.intro ?_ ?_); (focus (rfl))) | (with_reducible refine awd_seq ?_) | ((first | ((with_reducible refine awd_regionA T_ok ?_ ?_); kernel_rfl) | ((with_reducible refine awd_condM ?_ ?_); kernel_rfl) | (with_reducible refine awd_skip ?_) | (with_reducible refine awd_ret ?_)); simp only [↓avP, avQ, avR, forall_const, implies_true, Nat.reduceEqDiff, Nat.reduceAdd, Nat.reduceLeDiff, reduceCtorEq, avS, ty_31, ty_48]; try simp (disch := omega) only [av_w, av_t1, av_tp, Int.toNat_natCast]))
          refine awx_defer rfl rfl rfl rfl rfl rfl (n0 := 2) (n1 := 3) rfl rfl (by decide) (by decide) (by decide) rfl (fun X Y E a' hG => Code.wpIn_mono dq_of ((?_ : AW Try.prog (Bdf w F 40 27 X Y) _ (QF (doR r a) (doE r a)) ⟨⟩ _) E a' hG))
          by_cases hE : doE r a = 0
          · have hok := act_ok (w := w) (F := F) (d := dOf 27 X Y) (gh := gOfX X Y) ho h0 (hf h0) ha hE
            rw [hkk] at hok
            generalize doR r a = r1 at *
            rw [hE]
            repeat' (first | (with_reducible refine aw_seq ?_) | (with_reducible refine aw_stop (id := 10) ?_) | ((with_reducible refine And.intro ?_ ?_); (focus (rfl))) | ((first | ((with_reducible refine aw_regionA T_ok ?_ ?_); kernel_rfl) | ((with_reducible refine callI_own (hclone) (by repeat' (first | exact ta_n | refine ta_d ?_)) ?_ ?_ ?_); kernel_rfl; kernel_rfl)); simp only [↓avP, avQ, avR, forall_const, implies_true, Nat.reduceEqDiff, Nat.reduceAdd, Nat.reduceLeDiff, reduceCtorEq, roomD_B, ty_31, ty_75, ty_25, setT]; try simp (disch := omega) only [av_w, av_t1, av_tp, Int.toNat_natCast]))
            refine ⟨?_⟩
            refine aw_regionA T_ok ?_ ?_
            · kernel_rfl
            simp only [↓avP, avQ, avR, forall_const, implies_true, reduceIte, Nat.reduceEqDiff, Nat.reduceAdd, Nat.reduceSub, Int.reduceToNat, Nat.reduceLeDiff, Nat.reduceLT, reduceCtorEq, Int.reduceEq, avS, actS, ↓zA_one, ↓zA_cells, zA_map, ↓zA_D, ty_A, ↓rwpP.eq_def, inP, roomD_B, handS, hd_dr, ↓zH_one, ↓zH_cells, zH_map, ↓zH_D, List.append_nil, ty_H, ty_3, ty_4, ty_31, ty_75, ty_72, ty_25, ty_55, ty_32, ty_29, ty_26, ty_63, ty_48, ty_23, ty_73, ty_69]
            refine callI_wk (s1 := sTo r1) (callI_wkS [(0, some 2), (1, some 3), (2, some 5), (3, some 6)] rfl rfl ?_ ?_ ?_ hok) ?_
            · simp only [wkA, reduceIte, Nat.reduceEqDiff]
              (repeat' (first | exact subVs_fl _ _ | exact subVs_d _ _ | rfl | refine And.intro ?_ ?_))
            · simp only [wkA, reduceIte, Nat.reduceEqDiff]
              (repeat' (first | exact subVs_fl _ _ | exact subVs_d _ _ | rfl | refine And.intro ?_ ?_))
            · simp only [wkA, reduceIte, Nat.reduceEqDiff]
              (repeat' (first | exact subVs_fl _ _ | exact subVs_d _ _ | rfl | refine And.intro ?_ ?_))
            simp only [↓avP, avQ, avR, forall_const, implies_true, reduceIte, Nat.reduceEqDiff, Nat.reduceAdd, Nat.reduceSub, Int.reduceToNat, Nat.reduceLeDiff, Nat.reduceLT, reduceCtorEq, Int.reduceEq, avS, actS, ↓zA_one, ↓zA_cells, zA_map, ↓zA_D, ty_A, ↓rwpP.eq_def, inP, roomD_B, handS, hd_dr, ↓zH_one, ↓zH_cells, zH_map, ↓zH_D, List.append_nil, ty_H, ty_3, ty_4, ty_31, ty_75, ty_72, ty_25, ty_55, ty_32, ty_29, ty_26, ty_63, ty_48, ty_23, ty_73, ty_69]
            refine aw_seq ?_
            refine aw_frzD 3 peer0 (r1.peers.map peerD) rfl rfl ?_
            simp only [frzS, frzM, frzK, frz1, frz2, frz_dV, List.map_cons, List.map_nil, setB, reduceIte, Nat.reduceEqDiff]
            repeat' (((first | ((with_reducible refine aw_regionA T_ok ?_ ?_); kernel_rfl) | (with_reducible refine aw_ret ?_) ); simp only [↓avP, avQ, avR, forall_const, implies_true, Nat.reduceEqDiff, Nat.reduceAdd, Nat.reduceLeDiff, reduceCtorEq, ty_31, ty_75, ty_48]; try simp (disch := omega) only [av_w, av_t1, av_tp, Int.toNat_natCast]))
            refine aw_ret ?_
            unfold QF
            simp only [↓avP, avQ, avR, forall_const, implies_true, reduceIte, Nat.reduceEqDiff, Nat.reduceAdd, Nat.reduceSub, Int.reduceToNat, Nat.reduceLeDiff, Nat.reduceLT, reduceCtorEq, Int.reduceEq, avS, actS, ↓zA_one, ↓zA_cells, zA_map, ↓zA_D, ty_A, ↓rwpP.eq_def, inP, roomD_B, handS, hd_dr, ↓zH_one, ↓zH_cells, zH_map, ↓zH_D, List.append_nil, ty_H, ty_3, ty_4, ty_31, ty_75, ty_72, ty_25, ty_55, ty_32, ty_29, ty_26, ty_63, ty_48, ty_23, ty_73, ty_69]
            exact ⟨Sub.of_eq rfl, Sub.refl _⟩
          · have hno := act_no (w := w) (F := F) (d := dOf 27 X Y) (gh := gOfX X Y) ho h0 ha hkr hE
            have hR : doR r a = room0 := by rw [doR, if_neg hE]
            rw [hkk] at hno
            generalize doE r a = e at *
            repeat' (first | (with_reducible refine aw_seq ?_) | (with_reducible refine aw_stop (id := 10) ?_) | ((with_reducible refine And.intro ?_ ?_); (focus (rfl))) | ((first | ((with_reducible refine aw_regionA T_ok ?_ ?_); kernel_rfl) | ((with_reducible refine callI_own (hclone) (by repeat' (first | exact ta_n | refine ta_d ?_)) ?_ ?_ ?_); kernel_rfl; kernel_rfl)); simp only [↓avP, avQ, avR, forall_const, implies_true, Nat.reduceEqDiff, Nat.reduceAdd, Nat.reduceLeDiff, reduceCtorEq, roomD_B, ty_31, ty_75, ty_25, setT]; try simp (disch := omega) only [av_w, av_t1, av_tp, Int.toNat_natCast]))
            refine ⟨?_⟩
            refine aw_regionP (errP e) T_ok ?_ ?_
            · kernel_rfl
            simp only [↓avP, avQ, avR, forall_const, implies_true, reduceIte, Nat.reduceEqDiff, Nat.reduceAdd, Nat.reduceSub, Int.reduceToNat, Nat.reduceLeDiff, Nat.reduceLT, reduceCtorEq, Int.reduceEq, avS, actS, ↓zA_one, ↓zA_cells, zA_map, ↓zA_D, ty_A, ↓rwpP.eq_def, inP, roomD_B, handS, hd_dr, ↓zH_one, ↓zH_cells, zH_map, ↓zH_D, List.append_nil, ty_H, ty_3, ty_4, ty_31, ty_75, ty_72, ty_25, ty_55, ty_32, ty_29, ty_26, ty_63, ty_48, ty_23, ty_73, ty_69]
            refine callP_wk (s1 := sBad) (callP_wkS [(0, some 2), (1, some 3), (2, some 5), (3, some 6)] rfl rfl ?_ ?_ ?_ hno) ?_
            · simp only [wkA, reduceIte, Nat.reduceEqDiff]
              (repeat' (first | exact subVs_fl _ _ | exact subVs_d _ _ | rfl | refine And.intro ?_ ?_))
            · simp only [wkA, reduceIte, Nat.reduceEqDiff]
              (repeat' (first | exact subVs_fl _ _ | exact subVs_d _ _ | rfl | refine And.intro ?_ ?_))
            · simp only [wkA, reduceIte, Nat.reduceEqDiff]
              (repeat' (first | exact subVs_fl _ _ | exact subVs_d _ _ | rfl | refine And.intro ?_ ?_))
            exact ⟨⟨rfl, hR⟩, rfl, rfl, rfl, rfl, _, _, _, _, rfl, rfl⟩
      · have b1 : ([a.kind] == [(1 : Int)]) = false := by simpa using fun h => hoth (.inl h)
        have b2 : ([a.kind] == [(2 : Int)]) = false := by simpa using fun h => hoth (.inr (.inl h))
        have b3 : ([a.kind] == [(3 : Int)]) = false := by simpa using fun h => hoth (.inr (.inr (.inl h)))
        have b4 : ([a.kind] == [(4 : Int)]) = false := by simpa using fun h => hoth (.inr (.inr (.inr (.inl h))))
        have b5 : ([a.kind] == [(5 : Int)]) = false := by simpa using fun h => hoth (.inr (.inr (.inr (.inr h))))
        have c1 : ([a.kind] = [(1 : Int)]) = False := by simpa using fun h => hoth (.inl h)
        have c2 : ([a.kind] = [(2 : Int)]) = False := by simpa using fun h => hoth (.inr (.inl h))
        have c3 : ([a.kind] = [(3 : Int)]) = False := by simpa using fun h => hoth (.inr (.inr (.inl h)))
        have c4 : ([a.kind] = [(4 : Int)]) = False := by simpa using fun h => hoth (.inr (.inr (.inr (.inl h))))
        have c5 : ([a.kind] = [(5 : Int)]) = False := by simpa using fun h => hoth (.inr (.inr (.inr (.inr h))))
        have a1 : (a.kind = 1) = False := by simpa using fun h => hoth (.inl h)
        have a2 : (a.kind = 2) = False := by simpa using fun h => hoth (.inr (.inl h))
        have a3 : (a.kind = 3) = False := by simpa using fun h => hoth (.inr (.inr (.inl h)))
        have a4 : (a.kind = 4) = False := by simpa using fun h => hoth (.inr (.inr (.inr (.inl h))))
        have a5 : (a.kind = 5) = False := by simpa using fun h => hoth (.inr (.inr (.inr (.inr h))))
        have hE : doE r a = 1 := by unfold doE actE; simp only [h0, a1, a2, a3, a4, a5]; simp
        have hR : doR r a = room0 := by rw [doR, hE, if_neg (by decide)]
        rw [hE, hR] at hRet ⊢
        have hk' : -9223372036854775808 ≤ a.kind ∧ a.kind ≤ 9223372036854775807 := hk
        repeat' (first | ((with_reducible refine And.intro ?_ ?_); (focus (first | exact keyOk_int_ | omega | rfl))) | ((((with_reducible refine awd_regionA T_ok ?_ ?_); kernel_rfl)); simp only [↓avP, avQ, avR, forall_const, implies_true, Nat.reduceEqDiff, Nat.reduceAdd, reduceCtorEq, Int.reduceEq, actS, ty_A, ty_3, ty_73, ty_69, c1, c2, c3, c4, c5]; try simp (disch := omega) only [av_w, av_t1, av_tp, Int.toNat_natCast]))
        refine awx_seq hRet ?_
        repeat' (first | ((with_reducible refine two_intro ?_ ?_) <;> intro h <;> first | contradiction | ((first | (guard_hyp h : true = true; clear h) | (guard_hyp h : false = false; clear h)))) | ((with_reducible refine And.intro ?_ ?_); (focus (rfl))) | (with_reducible refine awd_seq ?_) | ((first | ((with_reducible refine awd_regionA T_ok ?_ ?_); kernel_rfl) | ((with_reducible refine awd_condM ?_ ?_); kernel_rfl) | (with_reducible refine awd_skip ?_) | (with_reducible refine awd_ret ?_)); simp only [↓avP, avQ, avR, forall_const, implies_true, Nat.reduceEqDiff, Nat.reduceAdd, Nat.reduceLeDiff, reduceCtorEq, avS, ty_31, ty_48]; try simp (disch := omega) only [av_w, av_t1, av_tp, Int.toNat_natCast]))
        exact ⟨sub_room0, Sub.refl _⟩
    · rw [h0] at hchk
      repeat' (first | ((with_reducible refine two_intro ?_ ?_) <;> intro h <;> first | contradiction | (((revert h; intro _)))) | (with_reducible refine awd_seq ?_) | ((first | ((with_reducible refine callI_spec (hchk) ?_ ?_ ?_ ?_); (focus (with_unfolding_all rfl)); kernel_rfl; kernel_rfl) | ((with_reducible refine awd_regionA T_ok ?_ ?_); kernel_rfl) | ((with_reducible refine awd_condM ?_ ?_); kernel_rfl) | (with_reducible refine awd_skip ?_) | (with_reducible refine awd_ret ?_)); simp only [↓avP, avQ, avR, forall_const, implies_true, Nat.reduceEqDiff, Nat.reduceAdd, Nat.reduceLeDiff, reduceCtorEq, avS, roomD_B, ty_31, ty_48]; try simp (disch := omega) only [av_w, av_t1, av_tp, Int.toNat_natCast]))
      have hE : doE r a = 540 := by unfold doE; rw [if_pos (by omega)]
      rw [hE, doR, hE, if_neg (by decide)]
      exact ⟨sub_room0, Sub.refl _⟩
  exact main _ rfl ⟨fun _ => none, F, w, fun _ => False⟩ _ (gam_in hF hus (by simp)) rfl

theorem msg_fits (h : Hd) (hh : hOk h) : (msgV h).fits := by
  obtain ⟨h1, h2, h3, h4, h5, h6, h7, h8, h9, h10⟩ := hh
  have z : ∀ n : Int, 0 ≤ n → n ≤ 3 → Cd.i64R n := fun n a b => ⟨by omega, by omega⟩
  simp only [msgV, intV, Cd.V.fits, Cd.V.fitss, and_true, List.length_nil, List.length_cons, Vector.length_toList]
  have z0 := z 0 (by omega) (by omega); have z1 := z 1 (by omega) (by omega); have z2 := z 2 (by omega) (by omega); have z3 := z 3 (by omega) (by omega)
  repeat' (first | assumption | exact Nat.zero_lt_succ _ | omega | (refine ⟨?_, ?_⟩))
theorem dec_msg (h : Hd) (hh : hOk h) : Cd.dec (msg h) = some (msgV h) := by
  have := Cd.V.dec_enc (msgV h) 16 [] (msg_ok h) (by rw [msg_depth]; omega) (msg_fits h hh)
  unfold Cd.dec msg
  rw [List.append_nil] at this
  rw [this]
theorem rootOf_toList (r : Vector UInt8 32) : rootOf r.toList = r := by
  unfold rootOf
  rw [dif_pos (by simp)]
  obtain ⟨a, ha⟩ := r
  rfl
theorem read_msg (h : Hd) (hh : hOk h) (hf : formB h = true) : readH (msg h) = (h, true) := by
  unfold readH
  rw [dec_msg h hh]
  have hL : vL (msgV h) = [intV h.line, intV h.at_, intV h.arr, intV h.leg, intV h.frm, intV h.to_, intV h.many, .mk 2 0 h.root.toList [], intV h.time, intV h.se, intV h.ss] := rfl
  have hall : ∀ i, i < 11 → elOk i (elAt (vL (msgV h)) i) = true := by
    intro i hi
    rw [hL]
    have : i = 0 ∨ i = 1 ∨ i = 2 ∨ i = 3 ∨ i = 4 ∨ i = 5 ∨ i = 6 ∨ i = 7 ∨ i = 8 ∨ i = 9 ∨ i = 10 := by omega
    rcases this with rfl | rfl | rfl | rfl | rfl | rfl | rfl | rfl | rfl | rfl | rfl <;> simp [elOk, elAt, intV, vK, vS]
  have hb : badF (vL (msgV h)) 0 11 = 11 := badF_all _ 11 0 (by simpa using hall)
  have hS11 : hS (vL (msgV h)) 11 = h := by
    rw [hL]
    simp only [hS, setF, elAt, List.getD_cons_zero, List.getD_cons_succ, intV, vN, vS, rootOf_toList]
  show rdV (msgV h) = _
  unfold rdV
  rw [if_pos ⟨rfl, rfl⟩, hb, hS11, hf]
  rfl
theorem msg_inj {a b : Hd} (ha : hOk a) (hb : hOk b) (hfa : formB a = true) (hfb : formB b = true) (h : msg a = msg b) : a = b := by
  have h1 := read_msg a ha hfa
  rw [h, read_msg b hb hfb] at h1
  exact (Prod.mk.inj h1).1.symm
def fH (h : Hd) : Prop := formB h = true ∧ hOk h
theorem bef_irr (h : Hd) : befB h h = false := by unfold befB; rw [cmpB_self]; rfl
theorem bef_conn {a b : Hd} (ha : fH a) (hb : fH b) (h1 : befB a b = false) (h2 : befB b a = false) : a = b := by
  have e1 := of_decide_eq_false h1
  have e2 := of_decide_eq_false h2
  have := cmpB_tri (msg a) (msg b)
  exact msg_inj ha.2 hb.2 ha.1 hb.1 (cmpB_zero (by omega))
theorem lb_spec (l : List Hd) (h : Hd) : (∀ x ∈ l.take (lbH l h), befB x h = true) ∧ (∀ hlt : lbH l h < l.length, befB l[lbH l h] h = false) := by
  unfold lbH
  induction l with
  | nil => simp
  | cons x l ih =>
    rw [List.takeWhile_cons]
    by_cases hx : befB x h = true
    · rw [if_pos hx]
      refine ⟨fun y hy => ?_, fun hlt => ?_⟩
      · simp only [List.length_cons, List.take_succ_cons, List.mem_cons] at hy
        rcases hy with rfl | hy
        · exact hx
        · exact ih.1 y hy
      · simpa using ih.2 (by simpa using hlt)
    · rw [if_neg hx]
      refine ⟨by simp, fun _ => by simpa using hx⟩
theorem mem_learn {l : List Hd} {h x : Hd} (hl : ∀ y ∈ l, fH y) (hh : fH h) : x ∈ learnL l h ↔ x ∈ l ∨ x = h := by
  unfold learnL
  split
  · rename_i hf
    refine ⟨.inl, fun hx => hx.elim id fun e => ?_⟩
    subst e
    unfold foundH at hf
    rw [Bool.and_eq_true, decide_eq_true_eq, beq_iff_eq] at hf
    have hm : l.getD (lbH l x) default ∈ l := mem_getD hf.1
    rw [← msg_inj (hl _ hm).2 hh.2 (hl _ hm).1 hh.1 (cmpB_zero hf.2)]
    exact hm
  · have : x ∈ l ↔ x ∈ l.take (lbH l h) ∨ x ∈ l.drop (lbH l h) := by rw [← List.mem_append, List.take_append_drop]
    simp only [List.mem_append, List.mem_singleton, this]
    exact ⟨fun h => by rcases h with (h | h) | h; exact .inl (.inl h); exact .inr h; exact .inl (.inr h), fun h => by rcases h with (h | h) | h; exact .inl (.inl h); exact .inr h; exact .inl (.inr h)⟩
theorem ord_learn {l : List Hd} {h : Hd} (ho : ordH l) (hl : ∀ y ∈ l, fH y) (hh : fH h) : ordH (learnL l h) := by
  unfold learnL
  split
  · exact ho
  · rename_i hf
    obtain ⟨h1, h2⟩ := lb_spec l h
    have hbe : ∀ y ∈ l.drop (lbH l h), befB h y = true := by
      intro y hy
      obtain ⟨j, hj, rfl⟩ := List.mem_iff_getElem.1 hy
      rw [List.length_drop] at hj
      have hlt : lbH l h < l.length := by omega
      have hb := h2 hlt
      have h0 : befB h l[lbH l h] = true := by
        cases hc : befB h l[lbH l h] with
        | true => rfl
        | false =>
          have e := bef_conn (hl _ (List.getElem_mem hlt)) hh hb hc
          exfalso
          apply hf
          unfold foundH
          rw [Bool.and_eq_true, decide_eq_true_eq, beq_iff_eq, getD_atH hlt, e]
          exact ⟨hlt, cmpB_self _⟩
      rw [List.getElem_drop]
      by_cases hj0 : j = 0
      · subst hj0; exact h0
      · exact bef_trans h0 (List.pairwise_iff_getElem.1 ho _ _ hlt (by omega) (by omega))
    have ho' : ordH (l.take (lbH l h) ++ l.drop (lbH l h)) := by rw [List.take_append_drop]; exact ho
    unfold ordH at ho' ⊢
    rw [List.pairwise_append] at ho'
    rw [List.append_assoc, List.pairwise_append]
    refine ⟨ho'.1, ?_, fun a ha b hb => ?_⟩
    · rw [List.singleton_append, List.pairwise_cons]
      exact ⟨hbe, ho'.2.1⟩
    · rw [List.singleton_append, List.mem_cons] at hb
      rcases hb with rfl | hb
      · exact h1 a ha
      · exact ho'.2.2 a ha b hb
theorem len_learn (l : List Hd) (h : Hd) : (learnL l h).length ≤ l.length + 1 := by
  unfold learnL
  split
  · omega
  · simp only [List.length_append, List.length_take, List.length_drop, List.length_cons, List.length_nil]
    have := lbH_le l h
    omega
theorem learn_known {l : List Hd} {h : Hd} (ho : ordH l) (hl : ∀ y ∈ l, fH y) (hm : h ∈ l) : learnL l h = l := by
  unfold learnL
  rw [if_pos]
  obtain ⟨i, hi, rfl⟩ := List.mem_iff_getElem.1 hm
  have e : lbH l l[i] = i := lbH_of (by omega) (fun k hk => by rw [getD_atH (by omega)]; exact List.pairwise_iff_getElem.1 ho _ _ _ _ hk) (fun _ => by rw [getD_atH hi]; exact bef_irr _)
  unfold foundH
  rw [e, Bool.and_eq_true, decide_eq_true_eq, getD_atH hi, beq_iff_eq]
  exact ⟨hi, cmpB_self _⟩
theorem ord_ext : ∀ {a b : List Hd}, ordH a → ordH b → (∀ x, x ∈ a ↔ x ∈ b) → a = b
  | [], [], _, _, _ => rfl
  | [], y :: b, _, _, h => by have := (h y).2 (by simp); cases this
  | x :: a, [], _, _, h => by have := (h x).1 (by simp); cases this
  | x :: a, y :: b, h1, h2, h => by
    unfold ordH at h1 h2
    rw [List.pairwise_cons] at h1 h2
    have asy : ∀ {u v : Hd}, befB u v = true → befB v u = true → False := fun p q => by have := bef_trans p q; rw [bef_irr] at this; cases this
    have e : x = y := by
      rcases List.mem_cons.1 ((h x).1 (by simp)) with e | hx
      · exact e
      · rcases List.mem_cons.1 ((h y).2 (by simp)) with e | hy
        · exact e.symm
        · exact (asy (h1.1 y hy) (h2.1 x hx)).elim
    subst e
    rw [ord_ext h1.2 h2.2 fun z => ⟨fun hz => ?_, fun hz => ?_⟩]
    · rcases List.mem_cons.1 ((h z).1 (by simp [hz])) with rfl | h'
      · have := h1.1 z hz; rw [bef_irr] at this; cases this
      · exact h'
    · rcases List.mem_cons.1 ((h z).2 (by simp [hz])) with rfl | h'
      · have := h2.1 z hz; rw [bef_irr] at this; cases this
      · exact h'
theorem nodup_le : ∀ {a b : List Hd}, a.Nodup → (∀ x ∈ a, x ∈ b) → a.length ≤ b.length
  | [], b, _, _ => Nat.zero_le _
  | x :: a, b, h1, h2 => by
    rw [List.nodup_cons] at h1
    have hx := h2 x (by simp)
    have := nodup_le (a := a) (b := b.erase x) h1.2 fun y hy => (List.mem_erase_of_ne (fun e => by subst e; exact h1.1 hy)).2 (h2 y (by simp [hy]))
    rw [List.length_erase_of_mem hx] at this
    have : 0 < b.length := List.length_pos_of_mem hx
    rw [List.length_cons]
    omega
theorem ord_nodup {l : List Hd} (h : ordH l) : l.Nodup := List.Pairwise.imp (fun {a b} hab e => by subst e; rw [bef_irr] at hab; cases hab) h
end Go.Proofs.Ythidfoohhhkobaa

