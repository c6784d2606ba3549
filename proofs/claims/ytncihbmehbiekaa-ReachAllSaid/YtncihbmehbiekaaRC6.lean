import Derived.Test.YtncihbmehbiekaaRC5
import Derived.Test.YtncihbmehbiekaaRC2
namespace Go.Proofs.Ytncihbmehbiekaa
set_option linter.unusedSimpArgs false
set_option linter.unusedVariables false
open Go.RowKit
set_option maxRecDepth 100000
set_option maxHeartbeats 4000000
def fewF (f : FlowP) : Bool := ((List.range (min f.lots.length 20)).all fun k => !(decide (((f.lots.getD k default).inn.length : Int) > 70) || decide (((f.lots.getD k default).perm.length : Int) > 70))) && decide (f.lots.length ≤ 20)
theorem ffew_spec (f : FlowP) (hl : f.lots.length ≤ 140737488351232) : Spec Try.prog 31 [.agg (flowD f)] (.r1 (aB (fewF f))) := by
  refine spec_of T_ok Try.func31 (by dsimp only [Try.f31]) rfl rfl (by simp) fun w F => ?_
  obtain ⟨Pk, hPk⟩ : ∃ Pk : Nat → Bool, Pk = fun k => !(decide (((f.lots.getD k default).inn.length : Int) > 70) || decide (((f.lots.getD k default).perm.length : Int) > 70)) := ⟨_, rfl⟩
  have hres : fewF f = ((List.range (min f.lots.length 20)).all Pk && decide (f.lots.length ≤ 20)) := by rw [fewF, hPk]
  repeat' (first
    | (with_reducible refine aw_seq ?_)
    | ((with_reducible refine twoG_intro ?_ ?_) <;> intro hTw <;> first | (exact Bool.noConfusion hTw) | ((try simp only [hTw, Bool.not_true, Bool.not_false, Bool.true_and, Bool.false_and, Bool.and_true, Bool.and_false, Bool.true_or, Bool.false_or, Bool.or_true, Bool.or_false]); (first | (guard_hyp hTw : true = true; clear hTw) | (guard_hyp hTw : false = false; clear hTw) | (revert hTw; intro _))))
    | ((with_reducible refine two_intro ?_ ?_) <;> intro hTw <;> first | (exact Bool.noConfusion hTw) | ((first | (guard_hyp hTw : true = true; clear hTw) | (guard_hyp hTw : false = false; clear hTw) | (revert hTw; intro _))))
    | ((with_reducible refine And.intro ?_ ?_); (focus (first | omega | rfl | decide | grind)))
    | (with_reducible refine aw_block ?_)
    | (with_reducible refine aw_scope ?_)
    | ((first
        | ((with_reducible refine aw_regionA T_ok ?_ ?_); (focus kernel_rfl))
        | ((with_reducible refine aw_drawnA T_ok ?_ ?_ ?_ ?_); (focus kernel_rfl); (focus kernel_rfl); (focus (decide +kernel)))
        | ((with_reducible refine aw_drawnF T_ok ?_ ?_ ?_ ?_); (focus kernel_rfl); (focus kernel_rfl); (focus (decide +kernel)))
        | (with_reducible refine aw_label ?_)
        | ((with_reducible refine aw_rfM ?_ ?_); (focus kernel_rfl))
        | (with_reducible refine aw_skip ?_)
        | (with_reducible refine aw_exit ?_)
        | ((with_reducible refine aw_condM ?_ ?_); (focus kernel_rfl))
        | (with_reducible refine aw_ret ?_)
      ); simp only [↓avP, avQ, if_true, if_false, forall_const, beq_self_eq_true, eq_self, ne_eq, implies_true, reduceIte, Nat.reduceEqDiff, Nat.reduceAdd, Nat.reduceSub, Int.reduceToNat, Nat.reduceLeDiff, Nat.reduceLT, reduceCtorEq, Int.reduceEq, retQ, retL, resV, RetV, RetOk, SubL, intD_B, lotD_B, flowD_B, snocI, ty_3, ty_27, ty_4, ty_24, ty_40, ty_22, ty_31, ← List.map_take, issD_get]; try simp (disch := omega) only [av_w, av_t1, av_tp, Int.toNat_natCast]))
  refine aw_loopI (fun k : Nat => ⟨[(1, .ptr 0 0), (3, vI k)], [(0, .cells 24 (dV (flowD f)))], 1⟩) (fun k => k ≤ min f.lots.length 20 ∧ ∀ i, i < k → Pk i = true) (fun k => min f.lots.length 20 - k) 0 ⟨Nat.zero_le _, fun i hi => absurd hi (Nat.not_lt_zero i)⟩ (wk_of [(0, some 0)] rfl rfl ?_ ?_) ?_
  · simp only [wkT, wkB, wkB1, subV, subVs, subD, subB, lkN_n, lkN_c, lkT_n, lkT_c, lkB_n, lkB_c, if_true, if_false, reduceIte, Nat.reduceEqDiff, true_and, and_true, and_self, inT, ofA]
    (repeat' (first | exact trivial | rfl | exact rfl | exact subVs_d _ _ | exact subVs_dm _ _ | exact subD_refl _ | refine And.intro ?_ ?_))
  · simp only [wkT, wkB, wkB1, subV, subVs, subD, subB, lkN_n, lkN_c, lkT_n, lkT_c, lkB_n, lkB_c, if_true, if_false, reduceIte, Nat.reduceEqDiff, true_and, and_true, and_self, inT, ofA]
    (repeat' (first | exact trivial | rfl | exact rfl | exact subVs_d _ _ | exact subVs_dm _ _ | exact subD_refl _ | refine And.intro ?_ ?_))
  rintro k ⟨hk, h0⟩
  rcases Nat.lt_or_ge k (min f.lots.length 20) with hlt | hge
  · have hlt1 : k < f.lots.length := by omega
    have hd1 : (decide ((k : Int) < (f.lots.length : Int)) && decide ((k : Int) < 20)) = true := by
      rw [Bool.and_eq_true, decide_eq_true_eq, decide_eq_true_eq]; omega
    have hPd : Pk k = !(decide (((f.lots.getD k default).inn.length : Int) > 70) || decide (((f.lots.getD k default).perm.length : Int) > 70)) := by rw [hPk]
    cases hp : (decide (((f.lots.getD k default).inn.length : Int) > 70) || decide (((f.lots.getD k default).perm.length : Int) > 70)) with
    | false =>
      repeat' (first
        | (with_reducible refine aw_seq ?_)
        | ((with_reducible refine twoG_intro ?_ ?_) <;> intro hTw <;> first | (exact Bool.noConfusion hTw) | ((try simp only [hTw, Bool.not_true, Bool.not_false, Bool.true_and, Bool.false_and, Bool.and_true, Bool.and_false, Bool.true_or, Bool.false_or, Bool.or_true, Bool.or_false]); (first | (guard_hyp hTw : true = true; clear hTw) | (guard_hyp hTw : false = false; clear hTw) | (revert hTw; intro _))))
        | ((with_reducible refine two_intro ?_ ?_) <;> intro hTw <;> first | (exact Bool.noConfusion hTw) | ((first | (guard_hyp hTw : true = true; clear hTw) | (guard_hyp hTw : false = false; clear hTw) | (revert hTw; intro _))))
        | ((with_reducible refine And.intro ?_ ?_); (focus (first | omega | rfl | decide | grind)))
        | (with_reducible refine aw_block ?_)
        | (with_reducible refine aw_scope ?_)
        | ((first
            | ((with_reducible refine aw_regionA T_ok ?_ ?_); (focus kernel_rfl))
            | ((with_reducible refine aw_drawnA T_ok ?_ ?_ ?_ ?_); (focus kernel_rfl); (focus kernel_rfl); (focus (decide +kernel)))
            | ((with_reducible refine aw_drawnF T_ok ?_ ?_ ?_ ?_); (focus kernel_rfl); (focus kernel_rfl); (focus (decide +kernel)))
            | (with_reducible refine aw_label ?_)
            | ((with_reducible refine aw_rfM ?_ ?_); (focus kernel_rfl))
            | (with_reducible refine aw_skip ?_)
            | (with_reducible refine aw_exit ?_)
            | ((with_reducible refine aw_condM ?_ ?_); (focus kernel_rfl))
            | (with_reducible refine aw_ret ?_)
          ); simp only [↓avP, avQ, if_true, if_false, forall_const, beq_self_eq_true, eq_self, ne_eq, implies_true, reduceIte, Nat.reduceEqDiff, Nat.reduceAdd, Nat.reduceSub, Int.reduceToNat, Nat.reduceLeDiff, Nat.reduceLT, reduceCtorEq, Int.reduceEq, retQ, retL, resV, RetV, RetOk, SubL, intD_B, lotD_B, flowD_B, snocI, ty_3, ty_27, ty_4, ty_24, ty_40, ty_22, ty_31, ← List.map_take, issD_get, hd1, hp]; try simp (disch := omega) only [av_w, av_t1, av_tp, Int.toNat_natCast]))
      refine ⟨k + 1, ⟨by omega, fun i hi => by rcases Nat.lt_succ_iff_lt_or_eq.1 hi with h | rfl; exact h0 i h; rw [hPd, hp]; rfl⟩, by dsimp only; omega, wk_of [(0, some 0)] rfl rfl ?_ ?_⟩
      · simp only [wkT, wkB, wkB1, subV, subVs, subD, subB, lkN_n, lkN_c, lkT_n, lkT_c, lkB_n, lkB_c, if_true, if_false, reduceIte, Nat.reduceEqDiff, true_and, and_true, and_self, inT, ofA]
        (repeat' (first | exact trivial | rfl | exact rfl | exact subVs_d _ _ | exact subVs_dm _ _ | exact subD_refl _ | refine And.intro ?_ ?_))
      · simp only [wkT, wkB, wkB1, subV, subVs, subD, subB, lkN_n, lkN_c, lkT_n, lkT_c, lkB_n, lkB_c, if_true, if_false, reduceIte, Nat.reduceEqDiff, true_and, and_true, and_self, inT, ofA]
        (repeat' (first | exact trivial | rfl | exact rfl | exact subVs_d _ _ | exact subVs_dm _ _ | exact subD_refl _ | refine And.intro ?_ ?_))
    | true =>
      repeat' (first
        | (with_reducible refine aw_seq ?_)
        | ((with_reducible refine twoG_intro ?_ ?_) <;> intro hTw <;> first | (exact Bool.noConfusion hTw) | ((try simp only [hTw, Bool.not_true, Bool.not_false, Bool.true_and, Bool.false_and, Bool.and_true, Bool.and_false, Bool.true_or, Bool.false_or, Bool.or_true, Bool.or_false]); (first | (guard_hyp hTw : true = true; clear hTw) | (guard_hyp hTw : false = false; clear hTw) | (revert hTw; intro _))))
        | ((with_reducible refine two_intro ?_ ?_) <;> intro hTw <;> first | (exact Bool.noConfusion hTw) | ((first | (guard_hyp hTw : true = true; clear hTw) | (guard_hyp hTw : false = false; clear hTw) | (revert hTw; intro _))))
        | ((with_reducible refine And.intro ?_ ?_); (focus (first | omega | rfl | decide | grind)))
        | (with_reducible refine aw_block ?_)
        | (with_reducible refine aw_scope ?_)
        | ((first
            | ((with_reducible refine aw_regionA T_ok ?_ ?_); (focus kernel_rfl))
            | ((with_reducible refine aw_drawnA T_ok ?_ ?_ ?_ ?_); (focus kernel_rfl); (focus kernel_rfl); (focus (decide +kernel)))
            | ((with_reducible refine aw_drawnF T_ok ?_ ?_ ?_ ?_); (focus kernel_rfl); (focus kernel_rfl); (focus (decide +kernel)))
            | (with_reducible refine aw_label ?_)
            | ((with_reducible refine aw_rfM ?_ ?_); (focus kernel_rfl))
            | (with_reducible refine aw_skip ?_)
            | (with_reducible refine aw_exit ?_)
            | ((with_reducible refine aw_condM ?_ ?_); (focus kernel_rfl))
            | (with_reducible refine aw_ret ?_)
          ); simp only [↓avP, avQ, if_true, if_false, forall_const, beq_self_eq_true, eq_self, ne_eq, implies_true, reduceIte, Nat.reduceEqDiff, Nat.reduceAdd, Nat.reduceSub, Int.reduceToNat, Nat.reduceLeDiff, Nat.reduceLT, reduceCtorEq, Int.reduceEq, retQ, retL, resV, RetV, RetOk, SubL, intD_B, lotD_B, flowD_B, snocI, ty_3, ty_27, ty_4, ty_24, ty_40, ty_22, ty_31, ← List.map_take, issD_get, hd1, hp]; try simp (disch := omega) only [av_w, av_t1, av_tp, Int.toNat_natCast]))
      exact Sub.of_eq (congrArg aB (by rw [hres, all_fail hlt (by rw [hPd, hp]; rfl)]; rfl))
  · have hkm : k = min f.lots.length 20 := by omega
    have hd1 : (decide ((k : Int) < (f.lots.length : Int)) && decide ((k : Int) < 20)) = false := by
      rw [Bool.and_eq_false_iff, decide_eq_false_iff_not, decide_eq_false_iff_not]; omega
    rw [hkm] at h0
    have hT := all_done h0
    repeat' (first
      | (with_reducible refine aw_seq ?_)
      | ((with_reducible refine twoG_intro ?_ ?_) <;> intro hTw <;> first | (exact Bool.noConfusion hTw) | ((try simp only [hTw, Bool.not_true, Bool.not_false, Bool.true_and, Bool.false_and, Bool.and_true, Bool.and_false, Bool.true_or, Bool.false_or, Bool.or_true, Bool.or_false]); (first | (guard_hyp hTw : true = true; clear hTw) | (guard_hyp hTw : false = false; clear hTw) | (revert hTw; intro _))))
      | ((with_reducible refine two_intro ?_ ?_) <;> intro hTw <;> first | (exact Bool.noConfusion hTw) | ((first | (guard_hyp hTw : true = true; clear hTw) | (guard_hyp hTw : false = false; clear hTw) | (revert hTw; intro _))))
      | ((with_reducible refine And.intro ?_ ?_); (focus (first | omega | rfl | decide | grind)))
      | (with_reducible refine aw_block ?_)
      | (with_reducible refine aw_scope ?_)
      | ((first
          | ((with_reducible refine aw_regionA T_ok ?_ ?_); (focus kernel_rfl))
          | ((with_reducible refine aw_drawnA T_ok ?_ ?_ ?_ ?_); (focus kernel_rfl); (focus kernel_rfl); (focus (decide +kernel)))
          | ((with_reducible refine aw_drawnF T_ok ?_ ?_ ?_ ?_); (focus kernel_rfl); (focus kernel_rfl); (focus (decide +kernel)))
          | (with_reducible refine aw_label ?_)
          | ((with_reducible refine aw_rfM ?_ ?_); (focus kernel_rfl))
          | (with_reducible refine aw_skip ?_)
          | (with_reducible refine aw_exit ?_)
          | ((with_reducible refine aw_condM ?_ ?_); (focus kernel_rfl))
          | (with_reducible refine aw_ret ?_)
        ); simp only [↓avP, avQ, if_true, if_false, forall_const, beq_self_eq_true, eq_self, ne_eq, implies_true, reduceIte, Nat.reduceEqDiff, Nat.reduceAdd, Nat.reduceSub, Int.reduceToNat, Nat.reduceLeDiff, Nat.reduceLT, reduceCtorEq, Int.reduceEq, retQ, retL, resV, RetV, RetOk, SubL, intD_B, lotD_B, flowD_B, snocI, ty_3, ty_27, ty_4, ty_24, ty_40, ty_22, ty_31, ← List.map_take, issD_get, hd1]; try simp (disch := omega) only [av_w, av_t1, av_tp, Int.toNat_natCast]))
    exact Sub.of_eq (congrArg aB (by rw [hres, hT, Bool.true_and, Bool.eq_iff_iff]; simp; omega))
def endsF (f : FlowP) : List Int := ((List.range (befF f f.lots.length).toNat).map fun n : Nat => (n : Int)).filter fun s => !decide (s ∈ goneF f f.lots.length)
def endAt (f : FlowP) (k : Nat) : List Int := ((List.range k).map fun n : Nat => (n : Int)).filter fun s => !decide (s ∈ goneF f f.lots.length)
theorem endAt_succ (f : FlowP) (k : Nat) : endAt f (k + 1) = endAt f k ++ (if decide ((k : Int) ∈ goneF f f.lots.length) = true then [] else [(k : Int)]) := by
  unfold endAt
  rw [List.range_succ, List.map_append, List.filter_append]
  congr 1
  simp only [List.map_cons, List.map_nil, List.filter_cons, List.filter_nil]
  by_cases h : (k : Int) ∈ goneF f f.lots.length <;> simp [h]
theorem endAt_len (f : FlowP) (k : Nat) : (endAt f k).length ≤ k := by
  unfold endAt
  exact Nat.le_trans (List.length_filter_le _ _) (by simp)
theorem checkF_zero {f : FlowP} (h : checkF f = 0) : f.senders ≤ 64 ∧ f.lots.length ≤ 2000 ∧ befF f f.lots.length ≤ 50000 ∧ 0 ≤ f.senders ∧ ∀ k, k < f.lots.length → okAt f k = true := by
  unfold checkF at h
  split at h
  · cases h
  · rename_i h1
    split at h
    · cases h
    · rename_i h2
      split at h
      · rename_i h3
        refine ⟨by omega, by omega, by omega, by omega, fun k hk => ?_⟩
        unfold validF at h3
        exact List.all_eq_true.1 h3 k (by simpa using hk)
      · cases h
theorem checkF_small {f : FlowP} (h : checkF f = 0) : SmallF f := by
  have := checkF_zero h
  exact ⟨by omega, by omega⟩
def endsR (f : FlowP) : List Int := if checkF f = 0 then endsF f else []
end Go.Proofs.Ytncihbmehbiekaa


namespace Go.Proofs.Ytncihbmehbiekaa
set_option linter.unusedSimpArgs false
set_option linter.unusedVariables false
open Go.RowKit
theorem snocL (l : List LotP) (x : LotP) : l.map lotD ++ [lotD x] = (l ++ [x]).map lotD := by simp
set_option maxRecDepth 100000
set_option maxHeartbeats 4000000
def knownF (f : FlowP) : Bool := (List.range f.lots.length).all fun k => !(!(f.lots.getD k default).known)
theorem knownF_at {f : FlowP} (h : knownF f = true) {k : Nat} (hk : k < f.lots.length) : (f.lots.getD k default).known = true := by
  have := List.all_eq_true.1 h k (by simpa using hk)
  simpa using this
def stepF (bef : Int) (x : LotP) (s : Int) : Int := if s ∈ x.inn then bef + x.perm.getD (x.inn.idxOf s) 0 else s
def followK (f : FlowP) : Nat → Int → Int
  | 0, s => s
  | k + 1, s => stepF (befF f k) (f.lots.getD k default) (followK f k s)
/-- what a valid, known lot is -/
structure GoodL (bef : Int) (gone : List Int) (x : LotP) : Prop where
  ne : x.inn.length ≠ 0
  nd : x.inn.Nodup
  fr : ∀ s ∈ x.inn, 0 ≤ s ∧ s < bef ∧ s ∉ gone
  pl : x.known = true → x.perm.length = x.inn.length ∧ x.perm.Nodup ∧ ∀ i ∈ x.perm, 0 ≤ i ∧ i < (x.inn.length : Int)
  pu : x.known = false → x.perm = []
theorem goodL_iff (bef : Int) (gone : List Int) (x : LotP) : lotB bef gone x = true ↔ GoodL bef gone x := by
  unfold lotB diffB
  simp only [Bool.and_eq_true, decide_eq_true_eq, List.all_eq_true, freeB, Bool.not_eq_true', decide_eq_false_iff_not]
  constructor
  · rintro ⟨⟨h1, h2, h3⟩, h4⟩
    refine ⟨h1, h2, fun s hs => ?_, fun hk => ?_, fun hk => ?_⟩
    · have := h3 s hs
      exact ⟨this.1.1, this.1.2, this.2⟩
    · rw [if_pos hk] at h4
      simp only [Bool.and_eq_true, decide_eq_true_eq, List.all_eq_true, outB] at h4
      exact ⟨h4.1, h4.2.1, h4.2.2⟩
    · rw [if_neg (by rw [hk]; simp)] at h4
      exact List.eq_nil_of_length_eq_zero (by simpa using h4)
  · rintro ⟨h1, h2, h3, h4, h5⟩
    refine ⟨⟨h1, h2, fun s hs => ?_⟩, ?_⟩
    · have := h3 s hs
      exact ⟨⟨this.1, this.2.1⟩, this.2.2⟩
    · by_cases hk : x.known = true
      · obtain ⟨g1, g2, g3⟩ := h4 hk
        rw [if_pos hk]
        simp only [Bool.and_eq_true, decide_eq_true_eq, List.all_eq_true, outB]
        exact ⟨g1, g2, g3⟩
      · rw [if_neg hk, h5 (by simpa using hk)]
        rfl
theorem goodL_at {f : FlowP} (h : checkF f = 0) {k : Nat} (hk : k < f.lots.length) : GoodL (befF f k) (goneF f k) (f.lots.getD k default) := (goodL_iff _ _ _).1 ((checkF_zero h).2.2.2.2 k hk)
theorem stepF_take {bef : Int} {x : LotP} {s : Int} (hn : x.inn.Nodup) {j : Nat} (hj : j < x.inn.length) : (if s ∈ x.inn.take (j + 1) then bef + x.perm.getD (x.inn.idxOf s) 0 else s) = if x.inn.getD j 0 = s then bef + x.perm.getD j 0 else if s ∈ x.inn.take j then bef + x.perm.getD (x.inn.idxOf s) 0 else s := by
  have hg : x.inn.getD j 0 = x.inn[j] := by simp [List.getD, hj]
  rw [List.take_succ_eq_append_getElem hj, hg]
  by_cases he : x.inn[j] = s
  · rw [if_pos he, if_pos (by simp [he])]
    have : x.inn.idxOf s = j := by rw [← he]; exact hn.idxOf_getElem j hj
    rw [this]
  · rw [if_neg he]
    have : s ∈ x.inn.take j ++ [x.inn[j]] ↔ s ∈ x.inn.take j := by
      simp only [List.mem_append, List.mem_singleton]
      exact ⟨fun h => h.elim id (fun e => absurd e.symm he), Or.inl⟩
    simp only [this]
def mapAt (f : FlowP) (k : Nat) : List Int := (List.range k).map fun s : Nat => followK f f.lots.length s
theorem mapAt_len (f : FlowP) (k : Nat) : (mapAt f k).length = k := by simp [mapAt]
def errM (f : FlowP) : Int := if checkF f ≠ 0 then checkF f else if knownF f = true then 0 else 1
def mapR (f : FlowP) : List Int := if errM f = 0 then mapAt f f.senders.toNat else []
instance : Inhabited FlowP := ⟨⟨0, []⟩⟩
end Go.Proofs.Ytncihbmehbiekaa


namespace Go.Proofs.Ytncihbmehbiekaa
set_option linter.unusedSimpArgs false
set_option linter.unusedVariables false
open Go.RowKit
/-- a map of integers -/
def mI (m : List (Int × Int)) : List (List Int × V) := m.map fun p => ([p.1], V.d (.c (.int .i64 p.2)))
def lkI (t : Int) : List (Int × Int) → Option Int
  | [] => none
  | (u, v) :: l => if t = u then some v else lkI t l
def upI (t v : Int) : List (Int × Int) → List (Int × Int)
  | [] => [(t, v)]
  | (u, w) :: l => if t = u then (t, v) :: l else (u, w) :: upI t v l
def dlI (t : Int) : List (Int × Int) → List (Int × Int)
  | [] => []
  | (u, w) :: l => if t = u then l else (u, w) :: dlI t l
def intV (n : Int) : V := .d (.c (.int .i64 n))
theorem lkM_I (t : Int) : ∀ m, lkM [t] (mI m) = (lkI t m).map intV
  | [] => rfl
  | (u, v) :: l => by
    have ih := lkM_I t l
    unfold mI at ih ⊢
    simp only [List.map_cons, lkM, lkI, List.cons.injEq, and_true]
    split
    · rfl
    · exact ih
theorem upM_I (t v : Int) : ∀ m, upM [t] (.d (.c (.int .i64 v))) (mI m) = mI (upI t v m)
  | [] => rfl
  | (u, w) :: l => by
    have ih := upM_I t v l
    unfold mI at ih ⊢
    simp only [List.map_cons, upM, upI, List.cons.injEq, and_true]
    split
    · rfl
    · simp only [List.map_cons, ih]
theorem dlM_I (t : Int) : ∀ m, dlM [t] (mI m) = mI (dlI t m)
  | [] => rfl
  | (u, w) :: l => by
    have ih := dlM_I t l
    unfold mI at ih ⊢
    simp only [List.map_cons, dlM, dlI, List.cons.injEq, and_true]
    split
    · rfl
    · simp only [List.map_cons, ih]
theorem intV_getD (o : Option Int) (b : Int) : (o.map intV).getD (.d (.c (.int .i64 b))) = .d (.c (.int .i64 (o.getD b))) := by cases o <;> rfl
theorem upI_new {t v : Int} : ∀ {m : List (Int × Int)}, t ∉ m.map (·.1) → upI t v m = m ++ [(t, v)]
  | [], _ => rfl
  | (u, w) :: l, h => by
    simp only [List.map_cons, List.mem_cons, not_or] at h
    rw [upI, if_neg h.1, upI_new h.2, List.cons_append]
theorem dlI_eq {t : Int} : ∀ {m : List (Int × Int)}, (m.map (·.1)).Nodup → dlI t m = m.filter fun p => !decide (p.1 = t)
  | [], _ => rfl
  | (u, w) :: l, h => by
    simp only [List.map_cons, List.nodup_cons] at h
    rw [dlI]
    by_cases e : t = u
    · rw [if_pos e, List.filter_cons, if_neg (by simp [e])]
      refine (List.filter_eq_self.2 fun p hp => ?_).symm
      have : p.1 ≠ t := fun e' => h.1 (by rw [← e, ← e']; exact List.mem_map_of_mem hp)
      simpa using this
    · rw [if_neg e, List.filter_cons, if_pos (by simp; exact fun e' => e e'.symm), dlI_eq h.2]
/-- the letters' places: a map from places to senders -/
structure OfInv (S : Nat) (g : Nat → Int) (m : List (Int × Int)) : Prop where
  nd : (m.map (·.1)).Nodup
  mem : ∀ t v, (t, v) ∈ m ↔ ∃ s : Nat, s < S ∧ v = s ∧ g s = t
theorem lkI_mem {t v : Int} : ∀ {m : List (Int × Int)}, (m.map (·.1)).Nodup → (t, v) ∈ m → lkI t m = some v
  | (u, w) :: l, h, hm => by
    simp only [List.map_cons, List.nodup_cons] at h
    rw [lkI]
    rcases List.mem_cons.1 hm with e | hm
    · cases e; rw [if_pos rfl]
    · have : t ≠ u := fun e => h.1 (by rw [← e]; exact List.mem_map.2 ⟨_, hm, rfl⟩)
      rw [if_neg this]; exact lkI_mem h.2 hm
theorem OfInv.lk {S : Nat} {g : Nat → Int} {m : List (Int × Int)} (h : OfInv S g m) {s : Nat} (hs : s < S) : lkI (g s) m = some (s : Int) := lkI_mem h.nd ((h.mem _ _).2 ⟨s, hs, rfl, rfl⟩)
theorem OfInv.move {S : Nat} {g : Nat → Int} {m : List (Int × Int)} (h : OfInv S g m) {s0 : Nat} {t t' : Int} (hs : s0 < S) (hg : g s0 = t) (hu : ∀ s, s < S → g s = t → s = s0) (hf : ∀ s, s < S → g s ≠ t') :
    OfInv S (fun s => if g s = t then t' else g s) (dlI t (upI t' s0 m)) := by
  have hk : t' ∉ m.map (·.1) := fun hm => by
    obtain ⟨⟨u, v⟩, hp, e⟩ := List.mem_map.1 hm
    obtain ⟨s, h1, _, h3⟩ := (h.mem u v).1 hp
    exact hf s h1 (h3.trans e)
  have htt : t' ≠ t := fun e => hf s0 hs (hg.trans e.symm)
  have hnd : ((m ++ [(t', (s0 : Int))]).map (·.1)).Nodup := by
    rw [List.map_append, List.nodup_append]
    exact ⟨h.nd, by simp, fun a ha b hb e => hk (by simp at hb; rw [← hb, ← e]; exact ha)⟩
  rw [upI_new hk, dlI_eq hnd]
  refine ⟨hnd.sublist ((List.filter_sublist).map _), fun u v => ?_⟩
  rw [List.mem_filter, List.mem_append, h.mem]
  simp only [List.mem_singleton, Prod.mk.injEq, Bool.not_eq_true', decide_eq_false_iff_not]
  constructor
  · rintro ⟨⟨s, h1, h2, h3⟩ | ⟨h1, h2⟩, h4⟩
    · exact ⟨s, h1, h2, by rw [if_neg (by rw [h3]; exact h4)]; exact h3⟩
    · exact ⟨s0, hs, h2, by rw [if_pos hg, h1]⟩
  · rintro ⟨s, h1, h2, h3⟩
    by_cases e : g s = t
    · rw [if_pos e] at h3
      have := hu s h1 e
      subst this
      exact ⟨.inr ⟨h3.symm, h2⟩, by rw [← h3]; exact htt⟩
    · rw [if_neg e] at h3
      exact ⟨.inl ⟨s, h1, h2, h3⟩, by rw [← h3]; exact e⟩
theorem OfInv.congr {S : Nat} {g g' : Nat → Int} {m : List (Int × Int)} (h : OfInv S g m) (he : ∀ s, s < S → g s = g' s) : OfInv S g' m :=
  ⟨h.nd, fun t v => (h.mem t v).trans ⟨fun ⟨s, h1, h2, h3⟩ => ⟨s, h1, h2, (he s h1).symm.trans h3⟩, fun ⟨s, h1, h2, h3⟩ => ⟨s, h1, h2, (he s h1).trans h3⟩⟩⟩
def mId (i : Nat) : List (Int × Int) := (List.range i).map fun n : Nat => ((n : Int), (n : Int))
theorem mId_keys (i : Nat) : (mId i).map (·.1) = (List.range i).map fun n : Nat => (n : Int) := by simp [mId, Function.comp_def]
theorem mId_nd (i : Nat) : ((mId i).map (·.1)).Nodup := by
  rw [mId_keys]
  refine List.pairwise_map.2 (List.Pairwise.imp (fun {a b} h e => h (by omega)) (List.nodup_range (n := i)))
theorem mId_succ (i : Nat) : upI i i (mId i) = mId (i + 1) := by
  rw [upI_new (by rw [mId_keys]; simp; intro x hx; omega)]
  simp [mId, List.range_succ]
theorem mId_inv (S : Nat) : OfInv S (fun s => (s : Int)) (mId S) := ⟨mId_nd S, fun t v => by
  unfold mId
  simp only [List.mem_map, List.mem_range, Prod.mk.injEq]
  exact ⟨fun ⟨a, h1, h2, h3⟩ => ⟨a, h1, h3.symm, h2⟩, fun ⟨a, h1, h2, h3⟩ => ⟨a, h1, h3, h2.symm⟩⟩⟩
/-- elements that differ, all below their number: all numbers are among them -/
theorem perm_onto {l : List Int} (h1 : l.Nodup) (h2 : ∀ i ∈ l, 0 ≤ i ∧ i < (l.length : Int)) {i : Int} (h3 : 0 ≤ i) (h4 : i < (l.length : Int)) : i ∈ l := by
  apply Classical.byContradiction
  intro hi
  have hn : (i :: l).Nodup := List.nodup_cons.2 ⟨hi, h1⟩
  have hs : (i :: l) ⊆ (List.range l.length).map fun n : Nat => (n : Int) := fun x hx => by
    have : 0 ≤ x ∧ x < (l.length : Int) := by
      rcases List.mem_cons.1 hx with rfl | hx
      · exact ⟨h3, h4⟩
      · exact h2 x hx
    exact List.mem_map.2 ⟨x.toNat, List.mem_range.2 (by omega), by omega⟩
  have := hn.length_le_of_subset hs
  simp at this
  omega
section
variable {f : FlowP}
theorem gone_lt (hc : checkF f = 0) : ∀ {k : Nat}, k ≤ f.lots.length → ∀ t ∈ goneF f k, 0 ≤ t ∧ t < befF f k
  | 0, _, t, ht => by simp [goneF] at ht
  | k + 1, hk, t, ht => by
    rw [goneF_succ (by omega)] at ht
    rw [befF_succ (by omega)]
    have hg := goodL_at hc (show k < f.lots.length by omega)
    rcases List.mem_append.1 ht with ht | ht
    · have := gone_lt hc (k := k) (by omega) t ht; omega
    · have := hg.fr t ht; omega
theorem idx_get {l : List Int} {u : Int} (h : u ∈ l) : l.idxOf u < l.length ∧ l.getD (l.idxOf u) 0 = u := by
  have := List.idxOf_lt_length_iff.2 h
  refine ⟨this, ?_⟩
  rw [List.getD, List.getElem?_eq_getElem this]
  simp
theorem getD_inj {l : List Int} (hn : l.Nodup) {i j : Nat} (hi : i < l.length) (hj : j < l.length) (h : l.getD i 0 = l.getD j 0) : i = j := by
  simp only [List.getD, List.getElem?_eq_getElem hi, List.getElem?_eq_getElem hj, Option.getD_some] at h
  exact (List.getElem_inj hn).1 h
theorem follow_in (hc : checkF f = 0) (hk : knownF f = true) (s : Nat) (hs : (s : Int) < f.senders) : ∀ {k : Nat}, k ≤ f.lots.length → 0 ≤ followK f k s ∧ followK f k s < befF f k ∧ followK f k s ∉ goneF f k
  | 0, _ => ⟨by simp [followK], by simpa [followK, befF] using hs, by simp [goneF]⟩
  | k + 1, hkl => by
    obtain ⟨h1, h2, h3⟩ := follow_in hc hk s hs (k := k) (by omega)
    have hlt : k < f.lots.length := by omega
    have hg := goodL_at hc hlt
    have hpl := hg.pl (knownF_at hk hlt)
    rw [followK, stepF, befF_succ hlt, goneF_succ hlt]
    split
    · rename_i hm
      obtain ⟨i1, _⟩ := idx_get hm
      have hp := hpl.2.2 _ (getD_mem (show List.idxOf (followK f k s) (f.lots.getD k default).inn < (f.lots.getD k default).perm.length by rw [hpl.1]; exact i1))
      have hb0 : 0 ≤ befF f k := by omega
      refine ⟨by omega, by have := hpl.1; omega, fun hm2 => ?_⟩
      rcases List.mem_append.1 hm2 with h | h
      · have := gone_lt hc (k := k) (by omega) _ h; omega
      · have := hg.fr _ h; omega
    · rename_i hm
      exact ⟨h1, by omega, fun hm2 => (List.mem_append.1 hm2).elim h3 hm⟩
theorem follow_inj (hc : checkF f = 0) (hk : knownF f = true) {s s' : Nat} (hs : (s : Int) < f.senders) (hs' : (s' : Int) < f.senders) : ∀ {k : Nat}, k ≤ f.lots.length → followK f k s = followK f k s' → s = s'
  | 0, _, h => by simp only [followK] at h; omega
  | k + 1, hkl, h => by
    have hlt : k < f.lots.length := by omega
    obtain ⟨h1, h2, h3⟩ := follow_in hc hk s hs (k := k) (by omega)
    obtain ⟨h1', h2', h3'⟩ := follow_in hc hk s' hs' (k := k) (by omega)
    have hg := goodL_at hc hlt
    have hpl := hg.pl (knownF_at hk hlt)
    refine follow_inj hc hk hs hs' (k := k) (by omega) ?_
    rw [followK, followK, stepF, stepF] at h
    have bd : ∀ {u : Int}, u ∈ (f.lots.getD k default).inn → 0 ≤ (f.lots.getD k default).perm.getD ((f.lots.getD k default).inn.idxOf u) 0 := fun hm => by
      obtain ⟨i1, _⟩ := idx_get hm
      exact (hpl.2.2 _ (getD_mem (by rw [hpl.1]; exact i1))).1
    split at h <;> split at h
    · rename_i m1 m2
      obtain ⟨i1, i2⟩ := idx_get m1
      obtain ⟨j1, j2⟩ := idx_get m2
      have := getD_inj hpl.2.1 (by rw [hpl.1]; exact i1) (by rw [hpl.1]; exact j1) (by omega : (f.lots.getD k default).perm.getD _ 0 = (f.lots.getD k default).perm.getD _ 0)
      rw [← i2, ← j2, this]
    · rename_i m1 _; have := bd m1; omega
    · rename_i _ m2; have := bd m2; omega
    · exact h
theorem follow_onto (hc : checkF f = 0) (hk : knownF f = true) : ∀ {k : Nat}, k ≤ f.lots.length → ∀ t, 0 ≤ t → t < befF f k → t ∉ goneF f k → ∃ s : Nat, (s : Int) < f.senders ∧ followK f k s = t
  | 0, _, t, h1, h2, _ => ⟨t.toNat, by simp [befF] at h2; omega, by simp only [followK]; omega⟩
  | k + 1, hkl, t, h1, h2, h3 => by
    have hlt : k < f.lots.length := by omega
    rw [befF_succ hlt] at h2
    rw [goneF_succ hlt, List.mem_append, not_or] at h3
    have hg := goodL_at hc hlt
    have hpl := hg.pl (knownF_at hk hlt)
    by_cases hb : t < befF f k
    · obtain ⟨s, hs, e⟩ := follow_onto hc hk (k := k) (by omega) t h1 hb h3.1
      exact ⟨s, hs, by rw [followK, stepF, e, if_neg h3.2]⟩
    · have hm := perm_onto hpl.2.1 (fun i hi => by have := hpl.2.2 i hi; rw [hpl.1]; exact this) (i := t - befF f k) (by omega) (by rw [hpl.1]; omega)
      obtain ⟨i1, i2⟩ := idx_get hm
      rw [hpl.1] at i1
      have hfr := hg.fr _ (getD_mem i1)
      obtain ⟨s, hs, e⟩ := follow_onto hc hk (k := k) (by omega) _ hfr.1 hfr.2.1 hfr.2.2
      refine ⟨s, hs, ?_⟩
      have hix : (f.lots.getD k default).inn.idxOf ((f.lots.getD k default).inn.getD ((f.lots.getD k default).perm.idxOf (t - befF f k)) 0) = (f.lots.getD k default).perm.idxOf (t - befF f k) := by
        obtain ⟨j1, j2⟩ := idx_get (getD_mem i1)
        exact getD_inj hg.nd j1 i1 j2
      rw [followK, stepF, e, if_pos (getD_mem i1), hix, i2]
      omega
/-- a letter's place when the first j letters of the lot k have moved -/
def posJ (f : FlowP) (k j s : Nat) : Int := if followK f k s ∈ (f.lots.getD k default).inn.take j then befF f k + (f.lots.getD k default).perm.getD ((f.lots.getD k default).inn.idxOf (followK f k s)) 0 else followK f k s
theorem posJ_zero (k s : Nat) : posJ f k 0 s = followK f k s := by simp [posJ]
theorem posJ_all (k s : Nat) : posJ f k (f.lots.getD k default).inn.length s = followK f (k + 1) s := by rw [posJ, List.take_length]; rfl
theorem posJ_step (hc : checkF f = 0) (hk : knownF f = true) {S k j : Nat} (hS : f.senders = S) (hlt : k < f.lots.length) (hj : j < (f.lots.getD k default).inn.length) {m : List (Int × Int)} (h : OfInv S (posJ f k j) m) :
    ∃ s0 : Nat, s0 < S ∧ lkI ((f.lots.getD k default).inn.getD j 0) m = some (s0 : Int) ∧ OfInv S (posJ f k (j + 1)) (dlI ((f.lots.getD k default).inn.getD j 0) (upI (befF f k + (f.lots.getD k default).perm.getD j 0) s0 m)) := by
  have hg := goodL_at hc hlt
  have hpl := hg.pl (knownF_at hk hlt)
  have hfr := hg.fr _ (getD_mem hj)
  obtain ⟨s0, hs0, e0⟩ := follow_onto hc hk (k := k) (by omega) _ hfr.1 hfr.2.1 hfr.2.2
  have hnt : (f.lots.getD k default).inn.getD j 0 ∉ (f.lots.getD k default).inn.take j := ((nodup_take hj).1 (hg.nd.sublist (List.take_sublist _ _))).2
  have sub : ∀ {u : Int}, u ∈ (f.lots.getD k default).inn.take j → u ∈ (f.lots.getD k default).inn := fun hm => List.mem_of_mem_take hm
  have low : ∀ {u : Int}, u ∈ (f.lots.getD k default).inn → 0 ≤ (f.lots.getD k default).perm.getD ((f.lots.getD k default).inn.idxOf u) 0 := fun hm => by
    obtain ⟨i1, _⟩ := idx_get hm
    exact (hpl.2.2 _ (getD_mem (by rw [hpl.1]; exact i1))).1
  have iff : ∀ s, posJ f k j s = (f.lots.getD k default).inn.getD j 0 ↔ followK f k s = (f.lots.getD k default).inn.getD j 0 := fun s => by
    unfold posJ
    split
    · rename_i hm
      have := low (sub hm)
      exact ⟨fun h => by omega, fun h => (hnt (by rw [← h]; exact hm)).elim⟩
    · exact Iff.rfl
  have hS0 : s0 < S := by omega
  refine ⟨s0, hS0, ?_, ?_⟩
  · have := h.lk hS0
    rwa [(iff s0).2 e0] at this
  · refine (h.move hS0 ((iff s0).2 e0) (fun s hs e => ?_) (fun s hs => ?_)).congr fun s hs => ?_
    · exact follow_inj hc hk (by omega) (by omega) (k := k) (by omega) (((iff s).1 e).trans e0.symm)
    · have hin := follow_in hc hk s (by omega) (k := k) (by omega)
      have hpj := (hpl.2.2 _ (getD_mem (show j < (f.lots.getD k default).perm.length by rw [hpl.1]; exact hj))).1
      unfold posJ
      split
      · rename_i hm
        intro e
        obtain ⟨i1, i2⟩ := idx_get (sub hm)
        have := getD_inj hpl.2.1 (by rw [hpl.1]; exact i1) (by rw [hpl.1]; exact hj) (by omega : (f.lots.getD k default).perm.getD _ 0 = (f.lots.getD k default).perm.getD _ 0)
        rw [this] at i2
        rw [← i2] at hm
        exact hnt hm
      · omega
    · have hst := stepF_take (x := f.lots.getD k default) (bef := befF f k) (s := followK f k s) hg.nd hj
      show _ = posJ f k (j + 1) s
      rw [show posJ f k (j + 1) s = _ from hst]
      by_cases e : followK f k s = (f.lots.getD k default).inn.getD j 0
      · rw [if_pos ((iff s).2 e), if_pos e.symm]
      · rw [if_neg (fun h => e ((iff s).1 h)), if_neg (fun h => e h.symm)]
        rfl
end
end Go.Proofs.Ytncihbmehbiekaa


namespace Go.Proofs.Ytncihbmehbiekaa
set_option linter.unusedSimpArgs false
set_option linter.unusedVariables false
open Go.RowKit
theorem gone_nd {f : FlowP} (hc : checkF f = 0) : ∀ {k : Nat}, k ≤ f.lots.length → (goneF f k).Nodup
  | 0, _ => by simp [goneF]
  | k + 1, hk => by
    rw [goneF_succ (by omega), List.nodup_append]
    have hg := goodL_at hc (show k < f.lots.length by omega)
    exact ⟨gone_nd hc (by omega), hg.nd, fun a ha b hb e => (hg.fr b hb).2.2 (e ▸ ha)⟩
theorem gone_len {f : FlowP} : ∀ {k : Nat}, k ≤ f.lots.length → ((goneF f k).length : Int) = befF f k - f.senders
  | 0, _ => by simp [goneF, befF]
  | k + 1, hk => by
    rw [goneF_succ (by omega), befF_succ (by omega), List.length_append]
    have := gone_len (f := f) (k := k) (by omega)
    omega
theorem filter_len {α : Type} (p : α → Bool) : ∀ l : List α, (l.filter p).length + (l.filter fun x => !p x).length = l.length
  | [] => rfl
  | x :: l => by
    have := filter_len p l
    rw [List.filter_cons, List.filter_cons]
    cases p x <;> simp <;> omega
/-- the numbers below N that are not in a list -/
theorem rest_len (N : Nat) (G : List Int) (hn : G.Nodup) (hb : ∀ t ∈ G, 0 ≤ t ∧ t < (N : Int)) : (((List.range N).map fun n : Nat => (n : Int)).filter fun s => !decide (s ∈ G)).length + G.length = N := by
  have h1 := filter_len (fun s : Int => decide (s ∈ G)) ((List.range N).map fun n : Nat => (n : Int))
  rw [List.length_map, List.length_range] at h1
  have hnd : (((List.range N).map fun n : Nat => (n : Int)).filter fun s => decide (s ∈ G)).Nodup :=
    List.Nodup.sublist List.filter_sublist (List.pairwise_map.2 (List.Pairwise.imp (fun {a b} h e => h (by omega)) (List.nodup_range (n := N))))
  have h2 := hnd.length_le_of_subset (l₂ := G) (fun x hx => by simpa using (List.mem_filter.1 hx).2)
  have h3 := hn.length_le_of_subset (l₂ := ((List.range N).map fun n : Nat => (n : Int)).filter fun s => decide (s ∈ G)) (fun x hx => by
    have := hb x hx
    refine List.mem_filter.2 ⟨List.mem_map.2 ⟨x.toNat, List.mem_range.2 (by omega), by omega⟩, by simpa using hx⟩)
  omega
theorem endsF_len {f : FlowP} (hc : checkF f = 0) : ((endsF f).length : Int) = f.senders := by
  have z := checkF_zero hc
  have hb := befF_mono (f := f) (Nat.le_refl f.lots.length)
  have hl := gone_len (f := f) (Nat.le_refl f.lots.length)
  have := rest_len (befF f f.lots.length).toNat (goneF f f.lots.length) (gone_nd hc (Nat.le_refl _)) (fun t ht => by have := gone_lt hc (Nat.le_refl _) t ht; omega)
  unfold endsF
  omega
theorem endsF_lt (f : FlowP) : (endsF f).Pairwise (· < ·) := by
  unfold endsF
  refine List.Pairwise.sublist List.filter_sublist (List.pairwise_map.2 ?_)
  exact List.Pairwise.imp (fun {a b} h => by omega) (List.pairwise_lt_range (n := _))
theorem mem_endsF {f : FlowP} {t : Int} : t ∈ endsF f ↔ 0 ≤ t ∧ t < befF f f.lots.length ∧ t ∉ goneF f f.lots.length := by
  unfold endsF
  rw [List.mem_filter, List.mem_map]
  simp only [List.mem_range, Bool.not_eq_true', decide_eq_false_iff_not]
  exact ⟨fun ⟨⟨n, h1, h2⟩, h3⟩ => ⟨by omega, by omega, h3⟩, fun ⟨h1, h2, h3⟩ => ⟨⟨t.toNat, by omega, by omega⟩, h3⟩⟩
theorem endsF_nd (f : FlowP) : (endsF f).Nodup := List.Pairwise.imp (fun {a b} h => by omega) (endsF_lt f)
end Go.Proofs.Ytncihbmehbiekaa


namespace Go.Proofs.Ytncihbmehbiekaa
set_option linter.unusedSimpArgs false
set_option linter.unusedVariables false
open Go.RowKit
abbrev takeF (f : FlowP) (k : Nat) : FlowP := ⟨f.senders, f.lots.take k⟩
section
variable {f : FlowP} {k i : Nat}
theorem OkF.take (hf : OkF f) (k : Nat) : OkF (takeF f k) := ⟨hf.s, Nat.le_trans (List.length_take_le' _ _) hf.l, fun x hx => hf.lots x (List.mem_of_mem_take hx)⟩
end
end Go.Proofs.Ytncihbmehbiekaa


namespace Go.Proofs.Ytncihbmehbiekaa
set_option linter.unusedSimpArgs false
set_option linter.unusedVariables false
open Go.RowKit
section
variable {f : FlowP} {x : LotP}
end
end Go.Proofs.Ytncihbmehbiekaa


namespace Go.Proofs.Ytncihbmehbiekaa
set_option linter.unusedSimpArgs false
set_option linter.unusedVariables false
open Go.RowKit
section
variable {f : FlowP} {lines : List (List Int)} {coal : List Int}
end
end Go.Proofs.Ytncihbmehbiekaa


namespace Go.Proofs.Ytncihbmehbiekaa
set_option linter.unusedSimpArgs false
set_option linter.unusedVariables false
open Go.RowKit
def setOf (ws : List Nat) (n : Nat) : Bool := (ws.getD (n / 64) 0).testBit (n % 64)
def addS (ws : List Nat) (n : Nat) : List Nat := ws.set (n / 64) (ws.getD (n / 64) 0 ||| 2 ^ (n % 64))
def OkW (ws : List Nat) : Prop := ∀ w ∈ ws, w < 18446744073709551616
theorem OkW.at {ws : List Nat} (h : OkW ws) (k : Nat) : ws.getD k 0 < 18446744073709551616 := by
  rcases Nat.lt_or_ge k ws.length with hk | hk
  · rw [List.getD, List.getElem?_eq_getElem hk]; exact h _ (by simp)
  · rw [List.getD, List.getElem?_eq_none hk]; decide
theorem or_lt {w r : Nat} (hw : w < 18446744073709551616) (hr : r < 64) : w ||| 2 ^ r < 18446744073709551616 := by
  have h1 : (18446744073709551616 : Nat) = 2 ^ 64 := by decide
  rw [h1] at hw ⊢
  exact Nat.or_lt_two_pow hw (Nat.pow_lt_pow_right (by omega) hr)
theorem OkW.add {ws : List Nat} (h : OkW ws) (n : Nat) : OkW (addS ws n) := fun w hw => by
  unfold addS at hw
  rcases List.mem_or_eq_of_mem_set hw with hw | rfl
  · exact h w hw
  · exact or_lt (h.at _) (Nat.mod_lt _ (by omega))
theorem addS_len (ws : List Nat) (n : Nat) : (addS ws n).length = ws.length := by simp [addS]
theorem setOf_add {ws : List Nat} {n : Nat} (h : n / 64 < ws.length) (m : Nat) : setOf (addS ws n) m = (setOf ws m || decide (m = n)) := by
  unfold setOf addS
  by_cases hq : n / 64 = m / 64
  · rw [List.getD, ← hq, List.getElem?_set_self h, Option.getD_some, Nat.testBit_or, Nat.testBit_two_pow]
    congr 1
    rw [decide_eq_decide]
    constructor
    · intro hr
      have h1 := Nat.div_add_mod n 64
      have h2 := Nat.div_add_mod m 64
      omega
    · intro e; rw [e]
  · rw [List.getD, List.getElem?_set_ne hq, ← List.getD]
    have : decide (m = n) = false := decide_eq_false (fun e => hq (by rw [e]))
    rw [this, Bool.or_false]
theorem setOf_none (k m : Nat) : setOf (List.replicate k 0) m = false := by
  unfold setOf
  have : (List.replicate k 0).getD (m / 64) 0 = 0 := by
    simp only [List.getD_eq_getElem?_getD, List.getElem?_replicate]
    split <;> rfl
  rw [this, Nat.zero_testBit]
theorem okW_none (k : Nat) : OkW (List.replicate k 0) := fun w hw => by rw [(List.mem_replicate.1 hw).2]; decide
/-- what the code computes of a word -/
theorem u64_wrap {n : Nat} (h : n < 18446744073709551616) : IntKind.u64.wrap (n : Int) = n := by
  simp only [IntKind.wrap, IntKind.signed, IntKind.bits]; simp; omega
theorem ofInt64 {q : Nat} (h : q < 18446744073709551616) : (BitVec.ofInt 64 (q : Int)).toNat = q := by
  rw [BitVec.toNat_ofInt]; omega
theorem has_word {w : Nat} {r : Int} (hw : w < 18446744073709551616) (h0 : 0 ≤ r) (h1 : r < 64) : ((IntKind.u64.wrap (((BitVec.ofInt IntKind.u64.bits ((w : Int).fdiv (2 ^ min r.toNat IntKind.u64.bits)) &&& BitVec.ofInt IntKind.u64.bits 1).toNat : Nat) : Int)) == 1) = w.testBit r.toNat := by
  have hb : IntKind.u64.bits = 64 := rfl
  rw [hb, Nat.min_eq_left (by omega)]
  obtain ⟨k, rfl⟩ : ∃ k : Nat, r = k := ⟨r.toNat, by omega⟩
  rw [Int.toNat_natCast]
  have hd : (w : Int).fdiv (2 ^ k) = ((w / 2 ^ k : Nat) : Int) := by
    rw [Int.fdiv_eq_ediv_of_nonneg]
    · simp
    · exact Int.le_of_lt (Int.pow_pos (by omega))
  have hlt : w / 2 ^ k < 18446744073709551616 := Nat.lt_of_le_of_lt (Nat.div_le_self _ _) hw
  rw [hd]
  have e1 : (BitVec.ofInt 64 ((w / 2 ^ k : Nat) : Int) &&& BitVec.ofInt 64 1).toNat = w / 2 ^ k % 2 := by
    rw [BitVec.toNat_and]
    have a1 : (BitVec.ofInt 64 ((w / 2 ^ k : Nat) : Int)).toNat = w / 2 ^ k := ofInt64 hlt
    have a2 : (BitVec.ofInt 64 1).toNat = 1 := by decide
    rw [a1, a2, Nat.and_one_is_mod]
  rw [e1, u64_wrap (by omega), Nat.testBit_eq_decide_div_mod_eq]
  rw [Bool.eq_iff_iff, beq_iff_eq, decide_eq_true_eq]
  omega
theorem add_word {w : Nat} {r : Int} (hw : w < 18446744073709551616) (h0 : 0 ≤ r) (h1 : r < 64) : IntKind.u64.wrap (((BitVec.ofInt IntKind.u64.bits (w : Int) ||| BitVec.ofInt IntKind.u64.bits (IntKind.u64.wrap (1 * 2 ^ min r.toNat IntKind.u64.bits))).toNat : Nat) : Int) = ((w ||| 2 ^ r.toNat : Nat) : Int) := by
  have hb : IntKind.u64.bits = 64 := rfl
  rw [hb, Nat.min_eq_left (by omega)]
  obtain ⟨k, rfl⟩ : ∃ k : Nat, r = k := ⟨r.toNat, by omega⟩
  rw [Int.toNat_natCast]
  have hk : (2 : Nat) ^ k < 2 ^ 64 := Nat.pow_lt_pow_right (by omega) (by omega)
  have h64 : (18446744073709551616 : Nat) = 2 ^ 64 := by decide
  have e0 : IntKind.u64.wrap (1 * 2 ^ k) = ((2 ^ k : Nat) : Int) := by
    have : (1 * 2 ^ k : Int) = ((2 ^ k : Nat) : Int) := by simp
    rw [this, u64_wrap (by omega)]
  rw [e0]
  have a1 : (BitVec.ofInt 64 (w : Int)).toNat = w := ofInt64 hw
  have a2 : (BitVec.ofInt 64 ((2 ^ k : Nat) : Int)).toNat = 2 ^ k := ofInt64 (by omega)
  rw [BitVec.toNat_or, a1, a2, u64_wrap]
  rw [h64] at hw ⊢
  exact Nat.or_lt_two_pow hw hk
theorem has_wordN {w r : Nat} (hw : w < 18446744073709551616) (h1 : r < 64) : (IntKind.u64.wrap (((BitVec.ofInt IntKind.u64.bits ((w : Int).fdiv (2 ^ min r IntKind.u64.bits)) &&& BitVec.ofInt IntKind.u64.bits 1).toNat : Nat) : Int) == 1) = w.testBit r := by
  have := has_word (r := (r : Int)) hw (by omega) (by omega)
  rwa [Int.toNat_natCast] at this
theorem add_wordN {w r : Nat} (hw : w < 18446744073709551616) (h1 : r < 64) : IntKind.u64.wrap (((BitVec.ofInt IntKind.u64.bits (w : Int) ||| BitVec.ofInt IntKind.u64.bits (IntKind.u64.wrap (1 * 2 ^ min r IntKind.u64.bits))).toNat : Nat) : Int) = ((w ||| 2 ^ r : Nat) : Int) := by
  have := add_word (r := (r : Int)) hw (by omega) (by omega)
  rwa [Int.toNat_natCast] at this
end Go.Proofs.Ytncihbmehbiekaa


namespace Go.Proofs.Ytncihbmehbiekaa
set_option linter.unusedSimpArgs false
set_option linter.unusedVariables false
open Go.RowKit
/-- the specification: the outs that a letter at some of the spots can reach -/
def canB (x : LotP) (sp : List Int) (j : Nat) : Bool := (List.range x.inn.length).any fun i => decide (x.inn.getD i 0 ∈ sp) && (!x.known || (x.perm.getD i 0 == (j : Int)))
def outL (x : LotP) (n : Int) (sp : List Int) (k : Nat) : List Int := ((List.range k).filter (canB x sp)).map fun j : Nat => n + j
def folL (x : LotP) (n : Int) (sp : List Int) : List Int := sp ++ outL x n sp x.inn.length
def spL (f : FlowP) (s : Int) : Nat → List Int
  | 0 => [s]
  | k + 1 => folL (f.lots.getD k default) (befF f k) (spL f s k)
theorem mem_outL {x : LotP} {n : Int} {sp : List Int} {k : Nat} {m : Int} : m ∈ outL x n sp k ↔ ∃ j : Nat, j < k ∧ m = n + j ∧ canB x sp j = true := by
  unfold outL
  rw [List.mem_map]
  constructor
  · rintro ⟨j, hj, rfl⟩
    rw [List.mem_filter, List.mem_range] at hj
    exact ⟨j, hj.1, rfl, hj.2⟩
  · rintro ⟨j, hj, rfl, h⟩
    exact ⟨j, List.mem_filter.2 ⟨List.mem_range.2 hj, h⟩, rfl⟩
theorem canB_iff {x : LotP} {sp : List Int} {j : Nat} : canB x sp j = true ↔ ∃ i, i < x.inn.length ∧ x.inn.getD i 0 ∈ sp ∧ (x.known = false ∨ x.perm.getD i 0 = (j : Int)) := by
  unfold canB
  rw [List.any_eq_true]
  constructor
  · rintro ⟨i, hi, h⟩
    refine ⟨i, by simpa using hi, ?_⟩
    simpa using h
  · rintro ⟨i, hi, h⟩
    exact ⟨i, by simpa using hi, by simpa using h⟩
theorem mem_spL_succ {f : FlowP} {s : Int} {k : Nat} {m : Int} : m ∈ spL f s (k + 1) ↔ m ∈ spL f s k ∨ ∃ j : Nat, j < (f.lots.getD k default).inn.length ∧ m = befF f k + j ∧ canB (f.lots.getD k default) (spL f s k) j = true := by
  rw [spL, folL, List.mem_append, mem_outL]
/-- the words, as the code goes -/
def stW (bef : Nat) (x : LotP) (i : Nat) (ws : List Nat) : List Nat :=
  if x.known = false then addS ws (bef + i) else if setOf ws (x.inn.getD i 0).toNat = true then addS ws (bef + (x.perm.getD i 0).toNat) else ws
def inW (bef : Nat) (x : LotP) : Nat → List Nat → List Nat
  | 0, ws => ws
  | i + 1, ws => stW bef x i (inW bef x i ws)
def someB (x : LotP) (ws : List Nat) : Bool := x.inn.any fun s => setOf ws s.toNat
def lotW (bef : Nat) (x : LotP) (i : Nat) (ws : List Nat) : List Nat := if someB x ws = true then inW bef x i ws else ws
def nW (f : FlowP) : Nat := (befF f f.lots.length).toNat / 64 + 1
def spW (f : FlowP) (s : Nat) : Nat → List Nat
  | 0 => addS (List.replicate (nW f) 0) s
  | k + 1 => lotW (befF f k).toNat (f.lots.getD k default) (f.lots.getD k default).inn.length (spW f s k)
theorem stW_len (bef : Nat) (x : LotP) (i : Nat) (ws : List Nat) : (stW bef x i ws).length = ws.length := by
  unfold stW; split <;> (try split) <;> simp [addS_len]
theorem inW_len (bef : Nat) (x : LotP) (ws : List Nat) : ∀ i, (inW bef x i ws).length = ws.length
  | 0 => rfl
  | i + 1 => by rw [inW, stW_len, inW_len bef x ws i]
theorem lotW_len (bef : Nat) (x : LotP) (i : Nat) (ws : List Nat) : (lotW bef x i ws).length = ws.length := by
  unfold lotW; split
  · exact inW_len _ _ _ _
  · rfl
theorem spW_len (f : FlowP) (s : Nat) : ∀ k, (spW f s k).length = nW f
  | 0 => by rw [spW, addS_len, List.length_replicate]
  | k + 1 => by rw [spW, lotW_len, spW_len f s k]
theorem stW_ok {bef : Nat} {x : LotP} {i : Nat} {ws : List Nat} (h : OkW ws) : OkW (stW bef x i ws) := by
  unfold stW; split
  · exact h.add _
  · split
    · exact h.add _
    · exact h
theorem inW_ok {bef : Nat} {x : LotP} {ws : List Nat} (h : OkW ws) : ∀ i, OkW (inW bef x i ws)
  | 0 => h
  | i + 1 => stW_ok (inW_ok h i)
theorem lotW_ok {bef : Nat} {x : LotP} {i : Nat} {ws : List Nat} (h : OkW ws) : OkW (lotW bef x i ws) := by
  unfold lotW; split
  · exact inW_ok h i
  · exact h
theorem spW_ok (f : FlowP) (s : Nat) : ∀ k, OkW (spW f s k)
  | 0 => (okW_none _).add _
  | k + 1 => lotW_ok (spW_ok f s k)
/-- one lot: the outs are beyond its ins -/
theorem inW_set {bef : Nat} {x : LotP} {ws : List Nat} (hsz : bef + x.inn.length ≤ 64 * ws.length) (hin : ∀ s ∈ x.inn, 0 ≤ s ∧ s < (bef : Int)) (hp : x.known = true → x.perm.length = x.inn.length ∧ ∀ p ∈ x.perm, 0 ≤ p ∧ p < (x.inn.length : Int)) : ∀ i, i ≤ x.inn.length → ∀ m, setOf (inW bef x i ws) m = (setOf ws m || (List.range i).any fun k => if x.known = false then decide (m = bef + k) else setOf ws (x.inn.getD k 0).toNat && decide (m = bef + (x.perm.getD k 0).toNat))
  | 0, _, m => by simp [inW]
  | i + 1, hi, m => by
    have ih := inW_set hsz hin hp i (by omega)
    have hl := inW_len bef x ws i
    rw [inW, List.range_succ, List.any_append]
    simp only [List.any_cons, List.any_nil, Bool.or_false]
    rw [← Bool.or_assoc, ← ih m]
    unfold stW
    by_cases hk : x.known = false
    · rw [if_pos hk, if_pos hk, setOf_add (by rw [hl]; omega)]
    · rw [if_neg hk, if_neg hk]
      have hkt : x.known = true := by simpa using hk
      obtain ⟨hp1, hp2⟩ := hp hkt
      have hs := hin _ (getD_mem (show i < x.inn.length by omega))
      have hpi := hp2 _ (getD_mem (show i < x.perm.length by omega))
      have hold : setOf (inW bef x i ws) (x.inn.getD i 0).toNat = setOf ws (x.inn.getD i 0).toNat := by
        rw [ih]
        have : ((List.range i).any fun k => if x.known = false then decide ((x.inn.getD i 0).toNat = bef + k) else setOf ws (x.inn.getD k 0).toNat && decide ((x.inn.getD i 0).toNat = bef + (x.perm.getD k 0).toNat)) = false := by
          rw [List.any_eq_false]
          intro k _
          rw [if_neg hk, show decide ((x.inn.getD i 0).toNat = bef + (x.perm.getD k 0).toNat) = false from decide_eq_false (by omega), Bool.and_false]
          simp
        rw [this, Bool.or_false]
      rw [hold]
      by_cases hq : setOf ws (x.inn.getD i 0).toNat = true
      · rw [if_pos hq, hq, Bool.true_and, setOf_add (by rw [hl]; omega)]
      · rw [if_neg hq]
        simp only [Bool.not_eq_true] at hq
        rw [hq, Bool.false_and, Bool.or_false]
theorem spW_set {f : FlowP} (hc : checkF f = 0) {s : Nat} (hs : (s : Int) < f.senders) : ∀ k, k ≤ f.lots.length → (∀ m, setOf (spW f s k) m = decide ((m : Int) ∈ spL f s k)) ∧ ∀ m ∈ spL f s k, 0 ≤ m ∧ m < befF f k
  | 0, _ => by
    obtain ⟨z1, z2, z3, z4, _⟩ := checkF_zero hc
    have hb := befF_mono (f := f) (Nat.le_refl f.lots.length)
    refine ⟨fun m => ?_, fun m hm => ?_⟩
    · rw [spW, setOf_add (by rw [List.length_replicate]; unfold nW; omega), setOf_none, Bool.false_or, decide_eq_decide, spL, List.mem_singleton]
      omega
    · rw [spL, List.mem_singleton] at hm
      subst hm
      unfold befF
      simp
      omega
  | k + 1, hk => by
    obtain ⟨ih, ihb⟩ := spW_set hc hs k (by omega)
    have hg := goodL_at hc (k := k) (by omega)
    have hb1 := befF_succ (f := f) (k := k) (by omega)
    have hb2 := befF_mono (f := f) (k := k + 1) hk
    have hb3 := befF_mono (f := f) (k := k) (by omega)
    obtain ⟨z1, z2, z3, z4, _⟩ := checkF_zero hc
    rw [spW]
    have hmem : ∀ m, m ∈ spL f s (k + 1) ↔ _ := fun m => mem_spL_succ (f := f) (s := s) (k := k) (m := m)
    obtain ⟨x, hx⟩ : ∃ x, x = f.lots.getD k default := ⟨_, rfl⟩
    obtain ⟨b, hbk⟩ : ∃ b : Nat, befF f k = b := ⟨(befF f k).toNat, by omega⟩
    simp only [← hx, hbk] at hmem hg hb1 ⊢
    rw [Int.toNat_natCast]
    refine ⟨fun m => ?_, fun m hm => ?_⟩
    · have hin : ∀ t ∈ x.inn, 0 ≤ t ∧ t < (b : Int) := fun t ht => ⟨(hg.fr t ht).1, (hg.fr t ht).2.1⟩
      have hset := inW_set (bef := b) (x := x) (ws := spW f s k) (by rw [spW_len]; unfold nW; omega) hin (fun h => ⟨(hg.pl h).1, (hg.pl h).2.2⟩) x.inn.length (Nat.le_refl _) m
      have hat : ∀ i, i < x.inn.length → setOf (spW f s k) (x.inn.getD i 0).toNat = decide (x.inn.getD i 0 ∈ spL f s k) := fun i hi => by
        have := hin _ (getD_mem hi)
        rw [ih, Int.toNat_of_nonneg this.1]
      have hsome : someB x (spW f s k) = true ↔ ∃ i, i < x.inn.length ∧ x.inn.getD i 0 ∈ spL f s k := by
        unfold someB
        rw [List.any_eq_true]
        constructor
        · rintro ⟨t, ht, h⟩
          obtain ⟨i, hi, rfl⟩ := List.getElem_of_mem ht
          have e : x.inn.getD i 0 = x.inn[i] := by simp [List.getD, hi]
          refine ⟨i, hi, ?_⟩
          have := hat i hi
          rw [e, h] at this
          rw [e]
          simpa using this.symm
        · rintro ⟨i, hi, h⟩
          exact ⟨_, getD_mem hi, by rw [hat i hi]; exact decide_eq_true h⟩
      unfold lotW
      rw [Bool.eq_iff_iff, decide_eq_true_eq, hmem]
      by_cases hsm : someB x (spW f s k) = true
      · rw [if_pos hsm, hset, Bool.or_eq_true, ih, decide_eq_true_eq, List.any_eq_true]
        refine or_congr Iff.rfl ?_
        constructor
        · rintro ⟨i, hi, h⟩
          have hi' : i < x.inn.length := by simpa using hi
          by_cases hkn : x.known = false
          · rw [if_pos hkn, decide_eq_true_eq] at h
            obtain ⟨i0, h1, h2⟩ := hsome.1 hsm
            exact ⟨i, hi', by omega, canB_iff.2 ⟨i0, h1, h2, .inl hkn⟩⟩
          · have hkt : x.known = true := by simpa using hkn
            rw [if_neg hkn, Bool.and_eq_true, hat i hi', decide_eq_true_eq, decide_eq_true_eq] at h
            have hp := (hg.pl hkt).2.2 _ (getD_mem (show i < x.perm.length by rw [(hg.pl hkt).1]; exact hi'))
            refine ⟨(x.perm.getD i 0).toNat, by omega, by omega, canB_iff.2 ⟨i, hi', h.1, .inr ?_⟩⟩
            rw [Int.toNat_of_nonneg hp.1]
        · rintro ⟨j, hj, hm, h⟩
          obtain ⟨i, hi, h1, h2⟩ := canB_iff.1 h
          by_cases hkn : x.known = false
          · exact ⟨j, by simpa using hj, by rw [if_pos hkn, decide_eq_true_eq]; omega⟩
          · have hkt : x.known = true := by simpa using hkn
            have h3 : x.perm.getD i 0 = j := h2.resolve_left (by rw [hkt]; simp)
            refine ⟨i, by simpa using hi, ?_⟩
            rw [if_neg hkn, Bool.and_eq_true, hat i hi, decide_eq_true_eq, decide_eq_true_eq, h3]
            exact ⟨h1, by omega⟩
      · rw [if_neg hsm, ih, decide_eq_true_eq]
        refine ⟨Or.inl, fun h => h.resolve_right ?_⟩
        rintro ⟨j, hj, hm, h⟩
        obtain ⟨i, hi, h1, h2⟩ := canB_iff.1 h
        exact hsm (hsome.2 ⟨i, hi, h1⟩)
    · rcases (hmem m).1 hm with h | ⟨j, hj, hm, _⟩
      · have := ihb m h
        omega
      · omega
/-- a sender's ends -/
def endS (f : FlowP) (s : Int) : List Int := (endsF f).filter fun t => decide (t ∈ spL f s f.lots.length)
def errE (f : FlowP) (s : Int) : Int := if checkF f ≠ 0 then checkF f else if s < 0 ∨ f.senders ≤ s then 1 else 0
def endR (f : FlowP) (s : Int) : List Int := if errE f s = 0 then endS f s else []
def matA (f : FlowP) (k : Nat) : List (List Int) := (List.range k).map fun s : Nat => endS f s
def matR (f : FlowP) : List (List Int) := if checkF f = 0 then matA f f.senders.toNat else []
theorem matA_succ (f : FlowP) (k : Nat) : matA f (k + 1) = matA f k ++ [endS f k] := by simp [matA, List.range_succ]
theorem matA_len (f : FlowP) (k : Nat) : (matA f k).length = k := by simp [matA]
def sndS (f : FlowP) (t : Int) (k : Nat) : List Int := ((List.range k).filter fun s : Nat => decide (t ∈ spL f s f.lots.length)).map fun s : Nat => (s : Int)
def errS (f : FlowP) (t : Int) : Int := if checkF f ≠ 0 then checkF f else if t ∈ endsF f then 0 else 1
def sndR (f : FlowP) (t : Int) : List Int := if errS f t = 0 then sndS f t f.senders.toNat else []
end Go.Proofs.Ytncihbmehbiekaa

