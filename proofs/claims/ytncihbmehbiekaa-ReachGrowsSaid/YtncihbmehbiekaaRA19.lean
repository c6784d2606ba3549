import Derived.Test.YtncihbmehbiekaaRA14
import Derived.Test.YtncihbmehbiekaaRA18
import Derived.Test.YtncihbmehbiekaaRA7
import Derived.Test.YtncihbmehbiekaaRA6
namespace Go.Proofs.Ytncihbmehbiekaa
set_option linter.unusedSimpArgs false
set_option linter.unusedVariables false
open Go.ChangeShapes Go.WideShapes Go.ChangeAt Go.RowKit
def OkI (l : List Int) : Prop := l.length ≤ 140737488351232 ∧ ∀ x ∈ l, -9223372036854775808 ≤ x ∧ x ≤ 9223372036854775807
theorem wf_int64 {n : Int} (h : (Lit.int .i64 n).wf = true) : -9223372036854775808 ≤ n ∧ n ≤ 9223372036854775807 := by
  exact wf_i64 h
theorem opens_int1 : Opens Try.prog 3 (RE intD (fun n => -9223372036854775808 ≤ n ∧ n ≤ 9223372036854775807)) :=
  ore_map (f := fun n : Int => n) (ore_int Try.underlying3) (by intro x; rfl) (fun x h => wf_int64 h)
theorem opens_ints : Opens Try.prog 27 (RE (fun l : List Int => [.sl 1 (intD 0) (l.map intD)]) OkI) :=
  ore_slice (sz := 1) (intD 0) (by intro x; rfl) opens_int1 Try.underlying27 (by kernel_rfl) (by decide) (Nat.le_of_ble_eq_true (by kernel_rfl))
theorem opens_lot : Opens Try.prog 40 (RE lotD OkL) :=
  ore_map (f := fun x : List Int × Bool × List Int × Unit => (⟨x.1, x.2.1, x.2.2.1⟩ : LotP))
    (opens_struct Try.underlying40 (by kernel_rfl)
      (oreL_1 opens_ints (by intro x; rfl) (by kernel_rfl) rfl (by simp) (oreL_1 (ore_bool Try.underlying4) (by intro x; rfl) (by kernel_rfl) rfl (by simp)
      (oreL_1 opens_ints (by intro x; rfl) (by kernel_rfl) rfl (by simp) oreL_nil))))
    (by intro x; rfl) (by rintro x ⟨h1, h2, h3, _⟩; exact ⟨h1.2, h3.2, h1.1, h3.1⟩)
theorem opens_lots : Opens Try.prog 22 (RE (fun l : List LotP => [.sl 3 (lotD default) (l.map lotD)]) (fun l => l.length ≤ 140737488351232 ∧ ∀ x ∈ l, OkL x)) :=
  ore_slice (sz := 3) (lotD default) (by intro x; rfl) opens_lot Try.underlying22 (by kernel_rfl) (by decide) (Nat.le_of_ble_eq_true (by kernel_rfl))
theorem opens_flow : Opens Try.prog 24 (RE flowD OkF) :=
  ore_map (f := fun x : Int × List LotP × Unit => (⟨x.1, x.2.1⟩ : FlowP))
    (opens_struct Try.underlying24 (by kernel_rfl)
      (oreL_1 (ore_int Try.underlying3) (by intro x; rfl) (by kernel_rfl) rfl (by simp) (oreL_1 opens_lots (by intro x; rfl) (by kernel_rfl) rfl (by simp) oreL_nil)))
    (by intro x; rfl) (by rintro x ⟨h1, h2, _⟩; exact ⟨wf_int64 h1, h2.1, h2.2⟩)
end Go.Proofs.Ytncihbmehbiekaa


namespace Go.Proofs.Ytncihbmehbiekaa
set_option linter.unusedSimpArgs false
set_option linter.unusedVariables false
open Go.RowKit
set_option maxRecDepth 100000
set_option maxHeartbeats 4000000
theorem endR_len (f : FlowP) (s : Int) : (endR f s).length ≤ 50000 := by
  unfold endR
  split
  · rename_i he
    have hc : checkF f = 0 := by
      apply Classical.byContradiction
      intro h
      rw [errE, if_pos h] at he
      exact h he
    have := endsR_le f
    rw [endsR, if_pos hc] at this
    exact Nat.le_trans (List.length_filter_le _ _) this
  · simp
theorem sndR_len (f : FlowP) (t : Int) : (sndR f t).length ≤ 50000 := by
  unfold sndR
  split
  · rename_i he
    have hc : checkF f = 0 := by
      apply Classical.byContradiction
      intro h
      rw [errS, if_pos h] at he
      exact h he
    have z := checkF_zero hc
    have := sndS_len f t f.senders.toNat
    omega
  · simp
theorem endS_len {f : FlowP} (hc : checkF f = 0) (s : Int) : (endS f s).length ≤ 50000 := by
  have := endsR_le f
  rw [endsR, if_pos hc] at this
  exact Nat.le_trans (List.length_filter_le _ _) this
theorem matR_at (f : FlowP) (k : Nat) : ((matR f).getD k []).length ≤ 50000 := by
  unfold matR
  split
  · rename_i hc
    rcases Nat.lt_or_ge k f.senders.toNat with h | h
    · rw [matA_get h]; exact endS_len hc _
    · rw [List.getD, List.getElem?_eq_none (by rw [matA_len]; exact h)]; simp
  · simp
theorem matR_len (f : FlowP) : (matR f).length ≤ 64 := by
  unfold matR
  split
  · rename_i hc
    have z := checkF_zero hc
    rw [matA_len]; omega
  · simp
theorem wlaw1_spec (f : FlowP) (s t : Int) (hf : OkF f) : Spec Try.prog 3 [.agg (flowD f), aI s, aI t] (.r1 (aB true)) := by
  refine spec_of T_ok Try.func3 (by dsimp only [Try.f3]) rfl rfl (by simp) fun w F => ?_
  have hF := qwfew_spec f hf.l
  have h1 := endR_len f s
  have h2 := sndR_len f t
  have h3 := matR_len f
  have q := qwsame_spec (matR f) (matR f) (fun k => by have := matR_at f k; omega) (by omega) (by omega)
  cases h0 : fewW f with
  | false =>
    rw [h0] at hF
    repeat' (first
      | (with_reducible refine aw_seq ?_)
      | ((with_reducible refine twoG_intro ?_ ?_) <;> intro hTw <;> first | (exact Bool.noConfusion hTw) | ((try simp only [hTw, Bool.not_true, Bool.not_false, Bool.true_and, Bool.false_and, Bool.and_true, Bool.and_false, Bool.true_or, Bool.false_or, Bool.or_true, Bool.or_false]); (first | (guard_hyp hTw : true = true; clear hTw) | (guard_hyp hTw : false = false; clear hTw) | (revert hTw; intro _))))
      | ((with_reducible refine two_intro ?_ ?_) <;> intro hTw <;> first | (exact Bool.noConfusion hTw) | ((first | (guard_hyp hTw : true = true; clear hTw) | (guard_hyp hTw : false = false; clear hTw) | (revert hTw; intro _))))
      | ((with_reducible refine And.intro ?_ ?_); (focus (first | omega | rfl | decide | grind)))
      | (with_reducible refine aw_block ?_)
      | (with_reducible refine aw_scope ?_)
      | ((first
          | ((with_reducible refine aw_regionA T_ok ?_ ?_); (focus kernel_rfl))
          | ((with_reducible refine aw_drawnA T_ok ?_ ?_ ?_ ?_); (focus kernel_rfl); (focus kernel_rfl); (focus (decide +kernel)))
          | ((with_reducible refine aw_drawnF T_ok ?_ ?_ ?_ ?_); (focus kernel_rfl); (focus kernel_rfl); (focus (decide +kernel)))
          | ((with_reducible refine callK_intro (wsane_spec) (by with_unfolding_all rfl) ?_ ?_); (focus kernel_rfl))
          | ((with_reducible refine callI_spec (wsane_spec) (by with_unfolding_all rfl) ?_ ?_ ?_); (focus kernel_rfl); (focus kernel_rfl))
          | ((with_reducible refine callK_intro (hF) (by with_unfolding_all rfl) ?_ ?_); (focus kernel_rfl))
          | ((with_reducible refine callI_spec (hF) (by with_unfolding_all rfl) ?_ ?_ ?_); (focus kernel_rfl); (focus kernel_rfl))
          | (with_reducible refine aw_label ?_)
          | ((with_reducible refine aw_rfM ?_ ?_); (focus kernel_rfl))
          | (with_reducible refine aw_skip ?_)
          | (with_reducible refine aw_exit ?_)
          | ((with_reducible refine aw_condM ?_ ?_); (focus kernel_rfl))
          | (with_reducible refine aw_ret ?_)
        ); simp only [↓avP, avQ, if_true, if_false, forall_const, beq_self_eq_true, eq_self, ne_eq, implies_true, reduceIte, Nat.reduceEqDiff, Nat.reduceAdd, Nat.reduceSub, Int.reduceToNat, Nat.reduceLeDiff, Nat.reduceLT, reduceCtorEq, Int.reduceEq, retQ, retL, resV, RetV, RetOk, SubL, intD_B, lotD_B, flowD_B, snocI, snocL, ty_3, ty_27, ty_4, ty_24, ty_40, ty_22, ty_31, issD_get]; try simp (disch := omega) only [av_w, av_t1, av_tp, Int.toNat_natCast]))
    all_goals exact Sub.refl _
  | true =>
    rw [h0] at hF
    repeat' (first
      | (with_reducible refine aw_seq ?_)
      | ((with_reducible refine twoG_intro ?_ ?_) <;> intro hTw <;> first | (exact Bool.noConfusion hTw) | ((try simp only [hTw, Bool.not_true, Bool.not_false, Bool.true_and, Bool.false_and, Bool.and_true, Bool.and_false, Bool.true_or, Bool.false_or, Bool.or_true, Bool.or_false]); (first | (guard_hyp hTw : true = true; clear hTw) | (guard_hyp hTw : false = false; clear hTw) | (revert hTw; intro _))))
      | ((with_reducible refine two_intro ?_ ?_) <;> intro hTw <;> first | (exact Bool.noConfusion hTw) | ((first | (guard_hyp hTw : true = true; clear hTw) | (guard_hyp hTw : false = false; clear hTw) | (revert hTw; intro _))))
      | ((with_reducible refine And.intro ?_ ?_); (focus (first | omega | rfl | decide | grind)))
      | (with_reducible refine aw_block ?_)
      | (with_reducible refine aw_scope ?_)
      | ((first
          | ((with_reducible refine aw_regionA T_ok ?_ ?_); (focus kernel_rfl))
          | ((with_reducible refine aw_drawnA T_ok ?_ ?_ ?_ ?_); (focus kernel_rfl); (focus kernel_rfl); (focus (decide +kernel)))
          | ((with_reducible refine aw_drawnF T_ok ?_ ?_ ?_ ?_); (focus kernel_rfl); (focus kernel_rfl); (focus (decide +kernel)))
          | ((with_reducible refine callK_intro (wsane_spec) (by with_unfolding_all rfl) ?_ ?_); (focus kernel_rfl))
          | ((with_reducible refine callI_spec (wsane_spec) (by with_unfolding_all rfl) ?_ ?_ ?_); (focus kernel_rfl); (focus kernel_rfl))
          | ((with_reducible refine callK_intro (hF) (by with_unfolding_all rfl) ?_ ?_); (focus kernel_rfl))
          | ((with_reducible refine callI_spec (hF) (by with_unfolding_all rfl) ?_ ?_ ?_); (focus kernel_rfl); (focus kernel_rfl))
          | ((with_reducible refine callK_intro (wends_spec f s hf) (by with_unfolding_all rfl) ?_ ?_); (focus kernel_rfl))
          | ((with_reducible refine callI_spec (wends_spec f s hf) (by with_unfolding_all rfl) ?_ ?_ ?_); (focus kernel_rfl); (focus kernel_rfl))
          | ((with_reducible refine callK_intro (qwends_spec f s hf) (by with_unfolding_all rfl) ?_ ?_); (focus kernel_rfl))
          | ((with_reducible refine callI_spec (qwends_spec f s hf) (by with_unfolding_all rfl) ?_ ?_ ?_); (focus kernel_rfl); (focus kernel_rfl))
          | ((with_reducible refine callK_intro (wsenders_spec f t hf) (by with_unfolding_all rfl) ?_ ?_); (focus kernel_rfl))
          | ((with_reducible refine callI_spec (wsenders_spec f t hf) (by with_unfolding_all rfl) ?_ ?_ ?_); (focus kernel_rfl); (focus kernel_rfl))
          | ((with_reducible refine callK_intro (qwsenders_spec f t hf) (by with_unfolding_all rfl) ?_ ?_); (focus kernel_rfl))
          | ((with_reducible refine callI_spec (qwsenders_spec f t hf) (by with_unfolding_all rfl) ?_ ?_ ?_); (focus kernel_rfl); (focus kernel_rfl))
          | ((with_reducible refine callK_intro (wmatrix_spec f hf) (by with_unfolding_all rfl) ?_ ?_); (focus kernel_rfl))
          | ((with_reducible refine callI_spec (wmatrix_spec f hf) (by with_unfolding_all rfl) ?_ ?_ ?_); (focus kernel_rfl); (focus kernel_rfl))
          | ((with_reducible refine callK_intro (qwmatrix_spec f hf) (by with_unfolding_all rfl) ?_ ?_); (focus kernel_rfl))
          | ((with_reducible refine callI_spec (qwmatrix_spec f hf) (by with_unfolding_all rfl) ?_ ?_ ?_); (focus kernel_rfl); (focus kernel_rfl))
          | ((with_reducible refine callK_intro (sameInts_spec (endR f s) (endR f s) (by omega)) (by with_unfolding_all rfl) ?_ ?_); (focus kernel_rfl))
          | ((with_reducible refine callI_spec (sameInts_spec (endR f s) (endR f s) (by omega)) (by with_unfolding_all rfl) ?_ ?_ ?_); (focus kernel_rfl); (focus kernel_rfl))
          | ((with_reducible refine callK_intro (sameInts_spec (sndR f t) (sndR f t) (by omega)) (by with_unfolding_all rfl) ?_ ?_); (focus kernel_rfl))
          | ((with_reducible refine callI_spec (sameInts_spec (sndR f t) (sndR f t) (by omega)) (by with_unfolding_all rfl) ?_ ?_ ?_); (focus kernel_rfl); (focus kernel_rfl))
          | ((with_reducible refine callK_intro (q) (by with_unfolding_all rfl) ?_ ?_); (focus kernel_rfl))
          | ((with_reducible refine callI_spec (q) (by with_unfolding_all rfl) ?_ ?_ ?_); (focus kernel_rfl); (focus kernel_rfl))
          | (with_reducible refine aw_label ?_)
          | ((with_reducible refine aw_rfM ?_ ?_); (focus kernel_rfl))
          | (with_reducible refine aw_skip ?_)
          | (with_reducible refine aw_exit ?_)
          | ((with_reducible refine aw_condM ?_ ?_); (focus kernel_rfl))
          | (with_reducible refine aw_ret ?_)
        ); simp only [↓avP, avQ, if_true, if_false, forall_const, beq_self_eq_true, eq_self, ne_eq, implies_true, reduceIte, Nat.reduceEqDiff, Nat.reduceAdd, Nat.reduceSub, Int.reduceToNat, Nat.reduceLeDiff, Nat.reduceLT, reduceCtorEq, Int.reduceEq, retQ, retL, resV, RetV, RetOk, SubL, intD_B, lotD_B, flowD_B, snocI, snocL, ty_3, ty_27, ty_4, ty_24, ty_40, ty_22, ty_31, issD_get]; try simp (disch := omega) only [av_w, av_t1, av_tp, Int.toNat_natCast]))
    all_goals first | exact Sub.refl _ | exact Sub.of_eq (congrArg aB (by simp))
end Go.Proofs.Ytncihbmehbiekaa


namespace Go.Proofs.Ytncihbmehbiekaa
set_option linter.unusedSimpArgs false
set_option linter.unusedVariables false
theorem Try.own : ownKnob Try.prog.godebug = none := by kernel_rfl
theorem Try.laidOut : laidOutB Try.prog = true := by kernel_rfl
end Go.Proofs.Ytncihbmehbiekaa


namespace Go.Proofs.Ytncihbmehbiekaa
set_option linter.unusedSimpArgs false
set_option linter.unusedVariables false
open Go.RowKit
def plOK (x : LotP) : Prop := x.perm.length = x.inn.length ∧ x.perm.Nodup ∧ ∀ p ∈ x.perm, 0 ≤ p ∧ p < (x.inn.length : Int)
/-- g knows at least what f knows -/
structure FinF (f g : FlowP) : Prop where
  s : g.senders = f.senders
  l : g.lots.length = f.lots.length
  lots : ∀ k, k < f.lots.length → g.lots.getD k default = f.lots.getD k default ∨ ((f.lots.getD k default).known = false ∧ (g.lots.getD k default).known = true ∧ (g.lots.getD k default).inn = (f.lots.getD k default).inn ∧ plOK (g.lots.getD k default))
section
variable {f g : FlowP}
theorem FinF.inn (h : FinF f g) {k : Nat} (hk : k < f.lots.length) : (g.lots.getD k default).inn = (f.lots.getD k default).inn := by
  rcases h.lots k hk with e | ⟨_, _, e, _⟩
  · rw [e]
  · exact e
theorem FinF.inns (h : FinF f g) : ∀ k, k ≤ f.lots.length → (g.lots.take k).map (·.inn) = (f.lots.take k).map (·.inn) := by
  intro k hk
  refine List.ext_getElem? fun i => ?_
  rw [List.getElem?_map, List.getElem?_map, List.getElem?_take, List.getElem?_take]
  by_cases hi : i < k
  · rw [if_pos hi, if_pos hi]
    have e1 : g.lots[i]? = some (g.lots.getD i default) := by rw [List.getD, List.getElem?_eq_getElem (by rw [h.l]; omega)]; rfl
    have e2 : f.lots[i]? = some (f.lots.getD i default) := by rw [List.getD, List.getElem?_eq_getElem (by omega)]; rfl
    rw [e1, e2, Option.map_some, Option.map_some, h.inn (by omega)]
  · rw [if_neg hi, if_neg hi]
theorem FinF.bef (h : FinF f g) {k : Nat} (hk : k ≤ f.lots.length) : befF g k = befF f k := by
  unfold befF
  have := congrArg (fun l : List (List Int) => (l.map List.length).sum) (h.inns k hk)
  simp only [List.map_map] at this
  have e : (List.length ∘ fun x : LotP => x.inn) = fun x : LotP => x.inn.length := rfl
  rw [e] at this
  rw [h.s, this]
theorem FinF.gone (h : FinF f g) {k : Nat} (hk : k ≤ f.lots.length) : goneF g k = goneF f k := by
  unfold goneF
  rw [List.flatMap_def, List.flatMap_def, h.inns k hk]
theorem FinF.check (h : FinF f g) (hc : checkF f = 0) : checkF g = 0 := by
  obtain ⟨z1, z2, z3, z4, z5⟩ := checkF_zero hc
  unfold checkF
  rw [h.l, h.bef (Nat.le_refl _), h.s, if_neg (by omega), if_neg (by omega), if_pos]
  unfold validF
  rw [h.l, List.all_eq_true]
  intro i hi
  have hil : i < f.lots.length := by simpa using hi
  have hg := goodL_at hc hil
  unfold okAt
  rw [h.bef (by omega), h.gone (by omega), goodL_iff]
  rcases h.lots i hil with e | ⟨_, e2, e3, e4⟩
  · rw [e]; exact hg
  · exact ⟨by rw [e3]; exact hg.ne, by rw [e3]; exact hg.nd, by rw [e3]; exact hg.fr, fun _ => e4, fun h => by rw [e2] at h; simp at h⟩
theorem FinF.ends (h : FinF f g) : endsF g = endsF f := by
  unfold endsF
  rw [h.l, h.bef (Nat.le_refl _), h.gone (Nat.le_refl _)]
theorem FinF.sp (h : FinF f g) (s : Int) : ∀ k, k ≤ f.lots.length → ∀ m, m ∈ spL g s k → m ∈ spL f s k
  | 0, _, m, hm => hm
  | k + 1, hk, m, hm => by
    have ih := h.sp s k (by omega)
    rw [mem_spL_succ] at hm ⊢
    rcases hm with hm | ⟨j, h1, h2, h3⟩
    · exact .inl (ih m hm)
    · rw [h.inn (by omega)] at h1
      rw [h.bef (by omega)] at h2
      refine .inr ⟨j, h1, h2, ?_⟩
      rw [canB_iff] at h3 ⊢
      obtain ⟨i, i1, i2, i3⟩ := h3
      rw [h.inn (by omega)] at i1 i2
      refine ⟨i, i1, ih _ i2, ?_⟩
      rcases h.lots k (by omega) with e | ⟨e, _⟩
      · rw [e] at i3; exact i3
      · exact .inl e
/-- where the letter of a known flow is, is among its spots -/
theorem follow_sp (hc : checkF g = 0) (hk : knownF g = true) (s : Nat) (hs : (s : Int) < g.senders) : ∀ k, k ≤ g.lots.length → followK g k s ∈ spL g s k
  | 0, _ => by simp [followK, spL]
  | k + 1, hkl => by
    have ih := follow_sp hc hk s hs k (by omega)
    have hlt : k < g.lots.length := by omega
    have hg := goodL_at hc hlt
    have hpl := hg.pl (knownF_at hk hlt)
    rw [mem_spL_succ, followK, stepF]
    split
    · rename_i hm
      obtain ⟨i1, i2⟩ := idx_get hm
      have hp := hpl.2.2 _ (getD_mem (show List.idxOf (followK g k s) (g.lots.getD k default).inn < (g.lots.getD k default).perm.length by rw [hpl.1]; exact i1))
      exact .inr ⟨((g.lots.getD k default).perm.getD ((g.lots.getD k default).inn.idxOf (followK g k s)) 0).toNat, by omega, by omega, canB_iff.2 ⟨_, i1, by rw [i2]; exact ih, .inr (by omega)⟩⟩
    · exact .inl ih
theorem follow_end (hc : checkF g = 0) (hk : knownF g = true) (s : Nat) (hs : (s : Int) < g.senders) : followK g g.lots.length s ∈ endsF g := by
  rw [mem_endsF]
  exact follow_in hc hk s hs (Nat.le_refl _)
theorem FinF.way_end (h : FinF f g) (hc : checkF f = 0) (hk : knownF g = true) (s : Nat) (hs : (s : Int) < f.senders) : followK g g.lots.length s ∈ endS f s := by
  have h1 := follow_end (h.check hc) hk s (by rw [h.s]; exact hs)
  have h2 := follow_sp (h.check hc) hk s (by rw [h.s]; exact hs) _ (Nat.le_refl _)
  rw [h.ends] at h1
  rw [h.l] at h1 h2 ⊢
  exact List.mem_filter.2 ⟨h1, decide_eq_true (h.sp s _ (Nat.le_refl _) _ h2)⟩
theorem mem_sndS {t : Int} {N : Nat} {s : Int} : s ∈ sndS f t N ↔ 0 ≤ s ∧ s < (N : Int) ∧ t ∈ spL f s f.lots.length := by
  unfold sndS
  simp only [List.mem_map, List.mem_filter, List.mem_range, decide_eq_true_eq]
  constructor
  · rintro ⟨a, ⟨h1, h2⟩, rfl⟩
    exact ⟨by omega, by omega, h2⟩
  · rintro ⟨h1, h2, h3⟩
    refine ⟨s.toNat, ⟨by omega, ?_⟩, by omega⟩
    rw [Int.toNat_of_nonneg h1]; exact h3
theorem mem_endS {t s : Int} : t ∈ endS f s ↔ t ∈ endsF f ∧ t ∈ spL f s f.lots.length := by
  unfold endS
  rw [List.mem_filter, decide_eq_true_eq]
/-- the way in which nothing is shuffled -/
def idL (x : LotP) : LotP := if x.known = true then x else ⟨x.inn, true, (List.range x.inn.length).map fun n : Nat => (n : Int)⟩
def idW (f : FlowP) : FlowP := ⟨f.senders, f.lots.map idL⟩
theorem idW_at {k : Nat} (hk : k < f.lots.length) : (idW f).lots.getD k default = idL (f.lots.getD k default) := by
  show (f.lots.map idL).getD k default = _
  rw [List.getD, List.getD, List.getElem?_map, List.getElem?_eq_getElem hk]
  rfl
theorem range_plOK (n : Nat) : ((List.range n).map fun n : Nat => (n : Int)).Nodup ∧ ∀ p ∈ (List.range n).map fun n : Nat => (n : Int), 0 ≤ p ∧ p < (n : Int) := by
  refine ⟨List.pairwise_map.2 (List.Pairwise.imp (fun {a b} h e => h (by omega)) (List.nodup_range (n := n))), fun p hp => ?_⟩
  obtain ⟨a, h1, rfl⟩ := List.mem_map.1 hp
  have := List.mem_range.1 h1
  omega
theorem idW_fin : FinF f (idW f) := by
  refine ⟨rfl, by simp [idW], fun k hk => ?_⟩
  rw [idW_at hk, idL]
  by_cases h : (f.lots.getD k default).known = true
  · rw [if_pos h]; exact .inl rfl
  · rw [if_neg h]
    have := range_plOK (f.lots.getD k default).inn.length
    exact .inr ⟨by simpa using h, rfl, rfl, by simp, this.1, this.2⟩
theorem idW_known : knownF (idW f) = true := by
  unfold knownF
  rw [List.all_eq_true]
  intro k hk
  have hlt : k < f.lots.length := by simpa [idW] using hk
  rw [idW_at hlt, idL]
  split
  · rename_i h; rw [h]; rfl
  · rfl
theorem endS_some (hc : checkF f = 0) (s : Nat) (hs : (s : Int) < f.senders) : endS f s ≠ [] := fun h => by
  have := idW_fin.way_end hc idW_known s hs
  rw [h] at this
  simp at this
theorem sndS_some (hc : checkF f = 0) {t : Int} (ht : t ∈ endsF f) {N : Nat} (hN : f.senders = N) : sndS f t N ≠ [] := fun h => by
  have hf := idW_fin (f := f)
  have h1 := mem_endsF.1 ht
  rw [← hf.bef (Nat.le_refl _), ← hf.gone (Nat.le_refl _)] at h1
  obtain ⟨s, hs, e⟩ := follow_onto (hf.check hc) idW_known (k := f.lots.length) (by rw [hf.l]; omega) t h1.1 h1.2.1 h1.2.2
  rw [hf.s] at hs
  have := hf.way_end hc idW_known s hs
  rw [hf.l, e] at this
  have : (s : Int) ∈ sndS f t N := mem_sndS.2 ⟨by omega, by omega, (mem_endS.1 this).2⟩
  rw [h] at this
  simp at this
theorem endS_lt (f : FlowP) (s : Int) : (endS f s).Pairwise (· < ·) := (endsF_lt f).sublist List.filter_sublist
theorem pairwise_at {l : List Int} (h : l.Pairwise (· < ·)) {k : Nat} (h0 : k ≠ 0) (hk : k < l.length) : l.getD (k - 1) 0 < l.getD k 0 := by
  have := List.pairwise_iff_getElem.1 h (k - 1) k (by omega) hk (by omega)
  simpa [List.getD, hk, show k - 1 < l.length by omega] using this
end
end Go.Proofs.Ytncihbmehbiekaa

