import Derived.Test.YtlnkmaejiceloaaHL2
namespace Go.Proofs.Ytlnkmaejiceloaa
set_option linter.unusedSimpArgs false
set_option linter.unusedVariables false
open Go.RowKit
structure LotP where
  inn : List Int
  known : Bool
  perm : List Int
  deriving DecidableEq
instance : Inhabited LotP := ⟨⟨[], false, []⟩⟩
structure FlowP where
  senders : Int
  lots : List LotP
  deriving DecidableEq
def lotD (x : LotP) : List D := [.sl 1 (intD 0) (x.inn.map intD), .c (.bool x.known), .sl 1 (intD 0) (x.perm.map intD)]
theorem lotD_len (x : LotP) : (dV (lotD x)).length = 3 := rfl
theorem lotD_take (x : LotP) : (dV (lotD x)).take 3 = dV (lotD x) := rfl
theorem lotD_ln (x : LotP) : (lotD x).length = 3 := rfl
theorem lotD_hd (x : LotP) : (dV (lotD x)).head? = some (.d (.sl 1 (intD 0) (x.inn.map intD))) := rfl
theorem lotD_ic (x : LotP) : (dV (lotD x)).length = 3 := rfl
theorem lotD_d1 (x : LotP) : (dV (lotD x)).drop 1 = [.d (.c (.bool x.known)), .d (.sl 1 (intD 0) (x.perm.map intD))] := rfl
theorem lotD_d2 (x : LotP) : (dV (lotD x)).drop 2 = [.d (.sl 1 (intD 0) (x.perm.map intD))] := rfl
set_option linter.defProp false in
def lotD_B := And.intro @lotD_len ( And.intro @lotD_take ( And.intro @lotD_hd ( And.intro @lotD_ln ( And.intro @lotD_ic ( And.intro @lotD_d1 (@lotD_d2))))))
def flowD (x : FlowP) : List D := [.c (.int .i64 x.senders), .sl 3 (lotD default) (x.lots.map lotD)]
theorem flowD_len (x : FlowP) : (dV (flowD x)).length = 2 := rfl
theorem flowD_take (x : FlowP) : (dV (flowD x)).take 2 = dV (flowD x) := rfl
theorem flowD_ln (x : FlowP) : (flowD x).length = 2 := rfl
theorem flowD_hd (x : FlowP) : (dV (flowD x)).head? = some (.d (.c (.int .i64 x.senders))) := rfl
theorem flowD_ic (x : FlowP) : (dV (flowD x)).length = 2 := rfl
theorem flowD_d1 (x : FlowP) : (dV (flowD x)).drop 1 = [.d (.sl 3 (lotD default) (x.lots.map lotD))] := rfl
set_option linter.defProp false in
def flowD_B := And.intro @flowD_len ( And.intro @flowD_take ( And.intro @flowD_hd ( And.intro @flowD_ln ( And.intro @flowD_ic (@flowD_d1)))))
set_option maxRecDepth 100000
set_option maxHeartbeats 4000000
abbrev fnI (p : Int → Bool) : D := .x (FnR Try.prog (FnD aI p))
def diffB (p : Int → Bool) (l : List Int) : Bool := decide l.Nodup && l.all p
theorem nodup_take {l : List Int} {k : Nat} (h : k < l.length) : (l.take (k + 1)).Nodup ↔ (l.take k).Nodup ∧ l.getD k 0 ∉ l.take k := by
  rw [List.take_succ_eq_append_getElem h, List.nodup_append]
  have : l.getD k 0 = l[k] := by simp [List.getD, h]
  rw [this]
  constructor
  · rintro ⟨h1, _, h3⟩
    exact ⟨h1, fun hm => h3 _ hm _ (by simp) rfl⟩
  · rintro ⟨h1, h2⟩
    exact ⟨h1, by simp, fun a ha b hb e => h2 (by rw [List.mem_singleton.1 hb] at e; rw [← e]; exact ha)⟩
theorem getD_mem {l : List Int} {k : Nat} (h : k < l.length) : l.getD k 0 ∈ l := by
  rw [List.getD, List.getElem?_eq_getElem h]; simp
theorem metM_take {l : List Int} {k : Nat} (h : k < l.length) : metM (l.take (k + 1)) = upA [l.getD k 0] true (metM (l.take k)) := by
  rw [List.take_succ_eq_append_getElem h, metM_succ]
  have : l.getD k 0 = l[k] := by simp [List.getD, h]
  rw [this]
theorem boolV_getD (o : Option Bool) (b : Bool) : (o.map boolV).getD (.d (.c (.bool b))) = .d (.c (.bool (o.getD b))) := by cases o <;> rfl
theorem different_spec (l : List Int) (p : Int → Bool) (hl : l.length ≤ 140737488351232) (hb : ∀ x ∈ l, -9223372036854775808 ≤ x ∧ x ≤ 9223372036854775807) : Spec Try.prog 45 [aIs l, .one (fnI p)] (.r1 (aB (diffB p l))) := by
  refine spec_of T_ok Try.func45 (by dsimp only [Try.f45]) rfl rfl (by simp) fun w F => ?_
  repeat' (first | (with_reducible refine aw_seq ?_) | ((with_reducible refine twoG_intro ?_ ?_) <;> intro h <;> first | contradiction | ((try simp only [h, avT]); (first | (guard_hyp h : true = true; clear h) | (guard_hyp h : false = false; clear h) | (revert h; intro _)))) | ((with_reducible refine two_intro ?_ ?_) <;> intro h <;> first | contradiction | ((first | (guard_hyp h : true = true; clear h) | (guard_hyp h : false = false; clear h) | (revert h; intro _)))) | ((with_reducible refine And.intro ?_ ?_); (focus (first | exact keyOk_int_ | omega | rfl | decide | grind))) | (with_reducible refine aw_block ?_) | (with_reducible refine aw_scope ?_) | ((first | ((with_reducible refine aw_regionA T_ok ?_ ?_); kernel_rfl) | ((with_reducible refine aw_drawnA T_ok ?_ ?_ ?_ ?_); kernel_rfl; kernel_rfl; (focus (decide +kernel))) | ((with_reducible refine aw_drawnF T_ok ?_ ?_ ?_ ?_); kernel_rfl; kernel_rfl; (focus (decide +kernel))) | (with_reducible refine aw_label ?_) | ((with_reducible refine aw_rfM ?_ ?_); kernel_rfl) | (with_reducible refine aw_skip ?_) | (with_reducible refine aw_exit ?_) | ((with_reducible refine aw_condM ?_ ?_); kernel_rfl) | (with_reducible refine aw_ret ?_)); simp only [↓avP, avQ, avR, forall_const, implies_true, reduceIte, Nat.reduceEqDiff, Nat.reduceAdd, Nat.reduceSub, Int.reduceToNat, Nat.reduceLeDiff, Nat.reduceLT, reduceCtorEq, Int.reduceEq, avS, intD_B, snocI, ty_3, ty_26, ty_4, ty_83, lkM_bool, upM_bool, boolV, boolV_getD]; try simp (disch := omega) only [av_w, av_t1, av_tp, Int.toNat_natCast]))
  refine aw_loopI (fun k : Nat => ⟨[(1, .d (fnI p)), (5, .mp 0), (9, vIs l), (10, vI l.length), (11, vI k)], [(0, .map .i 3 (.bool false) (boolV false) (mpV boolV (metM (l.take k))))], 1⟩) (fun k => k ≤ l.length ∧ diffB p (l.take k) = true) (fun k => l.length - k) 0 ⟨Nat.zero_le _, by simp [diffB]⟩ (wk_of [(0, some 0)] rfl rfl ?_ ?_) ?_
  · simp only [wkA, reduceIte, Nat.reduceEqDiff]
    (repeat' (first | exact trivial | rfl | exact rfl | refine And.intro ?_ ?_))
  · simp only [wkA, reduceIte, Nat.reduceEqDiff]
    (repeat' (first | exact trivial | rfl | exact rfl | refine And.intro ?_ ?_))
  rintro k ⟨hk, h0⟩
  rcases Nat.lt_or_ge k l.length with hlt | hge
  · have hd := ltd hlt
    have hx := hb _ (getD_mem hlt)
    have hsucc : diffB p (l.take (k + 1)) = (!decide (l.getD k 0 ∈ l.take k) && p (l.getD k 0)) := by
      unfold diffB at h0 ⊢
      simp only [Bool.and_eq_true, decide_eq_true_eq] at h0
      have hn := nodup_take hlt
      rw [Bool.eq_iff_iff]
      simp only [Bool.and_eq_true, decide_eq_true_eq, Bool.not_eq_true', decide_eq_false_iff_not, hn, h0.1, true_and]
      rw [List.take_succ_eq_append_getElem hlt, List.all_append, Bool.and_eq_true]
      have : l.getD k 0 = l[k] := by simp [List.getD, hlt]
      rw [this]
      simp [h0.2]
    have hfail : diffB p (l.take (k + 1)) = false → diffB p l = false := fun h => by
      have e : l = l.take (k + 1) ++ l.drop (k + 1) := (List.take_append_drop _ _).symm
      unfold diffB at h ⊢
      rw [Bool.and_eq_false_iff] at h ⊢
      rcases h with h | h
      · refine .inl (decide_eq_false fun hn => ?_)
        rw [e] at hn
        exact (of_decide_eq_false h) (List.nodup_append.1 hn).1
      · right
        rw [e, List.all_append, h, Bool.false_and]
    by_cases hm : l.getD k 0 ∈ l.take k
    · have hz : lkA [l.getD k 0] (metM (l.take k)) = some true := by rw [lkA_metM, if_pos hm]
      rw [decide_eq_true hm] at hsucc
      repeat' (first | (with_reducible refine aw_seq ?_) | ((with_reducible refine twoG_intro ?_ ?_) <;> intro h <;> first | contradiction | ((try simp only [h, avT]); (first | (guard_hyp h : true = true; clear h) | (guard_hyp h : false = false; clear h) | (revert h; intro _)))) | ((with_reducible refine two_intro ?_ ?_) <;> intro h <;> first | contradiction | ((first | (guard_hyp h : true = true; clear h) | (guard_hyp h : false = false; clear h) | (revert h; intro _)))) | ((with_reducible refine And.intro ?_ ?_); (focus (first | exact keyOk_int_ | omega | rfl | decide | grind))) | (with_reducible refine aw_block ?_) | (with_reducible refine aw_scope ?_) | ((first | ((with_reducible refine aw_regionA T_ok ?_ ?_); kernel_rfl) | ((with_reducible refine aw_drawnA T_ok ?_ ?_ ?_ ?_); kernel_rfl; kernel_rfl; (focus (decide +kernel))) | ((with_reducible refine aw_drawnF T_ok ?_ ?_ ?_ ?_); kernel_rfl; kernel_rfl; (focus (decide +kernel))) | (with_reducible refine aw_label ?_) | ((with_reducible refine aw_rfM ?_ ?_); kernel_rfl) | (with_reducible refine aw_skip ?_) | (with_reducible refine aw_exit ?_) | ((with_reducible refine aw_condM ?_ ?_); kernel_rfl) | (with_reducible refine aw_ret ?_)); simp only [↓avP, avQ, avR, forall_const, implies_true, reduceIte, Nat.reduceEqDiff, Nat.reduceAdd, Nat.reduceSub, Int.reduceToNat, Nat.reduceLeDiff, Nat.reduceLT, reduceCtorEq, Int.reduceEq, avS, intD_B, snocI, ty_3, ty_26, ty_4, ty_83, lkM_bool, upM_bool, boolV, boolV_getD, hd, hz]; try simp (disch := omega) only [av_w, av_t1, av_tp, Int.toNat_natCast]))
      exact Sub.of_eq (congrArg aB (hfail hsucc).symm)
    · have hz : lkA [l.getD k 0] (metM (l.take k)) = none := by rw [lkA_metM, if_neg hm]
      rw [decide_eq_false hm, Bool.not_false, Bool.true_and] at hsucc
      cases hp : p (l.getD k 0) with
      | true =>
        repeat' (first | (with_reducible refine aw_seq ?_) | ((with_reducible refine twoG_intro ?_ ?_) <;> intro h <;> first | contradiction | ((try simp only [h, avT]); (first | (guard_hyp h : true = true; clear h) | (guard_hyp h : false = false; clear h) | (revert h; intro _)))) | ((with_reducible refine two_intro ?_ ?_) <;> intro h <;> first | contradiction | ((first | (guard_hyp h : true = true; clear h) | (guard_hyp h : false = false; clear h) | (revert h; intro _)))) | ((with_reducible refine And.intro ?_ ?_); (focus (first | exact keyOk_int_ | omega | rfl | decide | grind))) | (with_reducible refine aw_block ?_) | (with_reducible refine aw_scope ?_) | ((first | ((with_reducible refine aw_regionA T_ok ?_ ?_); kernel_rfl) | ((with_reducible refine aw_drawnA T_ok ?_ ?_ ?_ ?_); kernel_rfl; kernel_rfl; (focus (decide +kernel))) | ((with_reducible refine aw_drawnF T_ok ?_ ?_ ?_ ?_); kernel_rfl; kernel_rfl; (focus (decide +kernel))) | ((with_reducible refine slotX_D ((l.getD k 0)) (by with_unfolding_all rfl) ?_ ?_); kernel_rfl) | (with_reducible refine aw_label ?_) | ((with_reducible refine aw_rfM ?_ ?_); kernel_rfl) | (with_reducible refine aw_skip ?_) | (with_reducible refine aw_exit ?_) | ((with_reducible refine aw_condM ?_ ?_); kernel_rfl) | (with_reducible refine aw_ret ?_)); simp only [↓avP, avQ, avR, forall_const, implies_true, reduceIte, Nat.reduceEqDiff, Nat.reduceAdd, Nat.reduceSub, Int.reduceToNat, Nat.reduceLeDiff, Nat.reduceLT, reduceCtorEq, Int.reduceEq, avS, intD_B, snocI, ty_3, ty_26, ty_4, ty_83, lkM_bool, upM_bool, boolV, boolV_getD, hd, hz, hp]; try simp (disch := omega) only [av_w, av_t1, av_tp, Int.toNat_natCast]))
        refine ⟨k + 1, ⟨by omega, hsucc.trans hp⟩, by dsimp only; omega, wk_of [(0, some 0)] rfl rfl ?_ ?_⟩
        · simp only [wkA, reduceIte, Nat.reduceEqDiff]
          (repeat' (first | exact trivial | rfl | exact rfl | refine And.intro ?_ ?_))
        · simp only [wkA, reduceIte, Nat.reduceEqDiff]
          first | exact ⟨rfl, subM_mpV (subV_bool _) (metM_take hlt).symm⟩ | exact subM_mpV (subV_bool _) (metM_take hlt).symm
      | false =>
        repeat' (first | (with_reducible refine aw_seq ?_) | ((with_reducible refine twoG_intro ?_ ?_) <;> intro h <;> first | contradiction | ((try simp only [h, avT]); (first | (guard_hyp h : true = true; clear h) | (guard_hyp h : false = false; clear h) | (revert h; intro _)))) | ((with_reducible refine two_intro ?_ ?_) <;> intro h <;> first | contradiction | ((first | (guard_hyp h : true = true; clear h) | (guard_hyp h : false = false; clear h) | (revert h; intro _)))) | ((with_reducible refine And.intro ?_ ?_); (focus (first | exact keyOk_int_ | omega | rfl | decide | grind))) | (with_reducible refine aw_block ?_) | (with_reducible refine aw_scope ?_) | ((first | ((with_reducible refine aw_regionA T_ok ?_ ?_); kernel_rfl) | ((with_reducible refine aw_drawnA T_ok ?_ ?_ ?_ ?_); kernel_rfl; kernel_rfl; (focus (decide +kernel))) | ((with_reducible refine aw_drawnF T_ok ?_ ?_ ?_ ?_); kernel_rfl; kernel_rfl; (focus (decide +kernel))) | ((with_reducible refine slotX_D ((l.getD k 0)) (by with_unfolding_all rfl) ?_ ?_); kernel_rfl) | (with_reducible refine aw_label ?_) | ((with_reducible refine aw_rfM ?_ ?_); kernel_rfl) | (with_reducible refine aw_skip ?_) | (with_reducible refine aw_exit ?_) | ((with_reducible refine aw_condM ?_ ?_); kernel_rfl) | (with_reducible refine aw_ret ?_)); simp only [↓avP, avQ, avR, forall_const, implies_true, reduceIte, Nat.reduceEqDiff, Nat.reduceAdd, Nat.reduceSub, Int.reduceToNat, Nat.reduceLeDiff, Nat.reduceLT, reduceCtorEq, Int.reduceEq, avS, intD_B, snocI, ty_3, ty_26, ty_4, ty_83, lkM_bool, upM_bool, boolV, boolV_getD, hd, hz, hp]; try simp (disch := omega) only [av_w, av_t1, av_tp, Int.toNat_natCast]))
        exact Sub.of_eq (congrArg aB (hfail (hsucc.trans hp)).symm)
  · obtain rfl : k = l.length := by omega
    have hd := ged (Nat.le_refl l.length)
    rw [List.take_length] at h0
    repeat' (first | (with_reducible refine aw_seq ?_) | ((with_reducible refine twoG_intro ?_ ?_) <;> intro h <;> first | contradiction | ((try simp only [h, avT]); (first | (guard_hyp h : true = true; clear h) | (guard_hyp h : false = false; clear h) | (revert h; intro _)))) | ((with_reducible refine two_intro ?_ ?_) <;> intro h <;> first | contradiction | ((first | (guard_hyp h : true = true; clear h) | (guard_hyp h : false = false; clear h) | (revert h; intro _)))) | ((with_reducible refine And.intro ?_ ?_); (focus (first | exact keyOk_int_ | omega | rfl | decide | grind))) | (with_reducible refine aw_block ?_) | (with_reducible refine aw_scope ?_) | ((first | ((with_reducible refine aw_regionA T_ok ?_ ?_); kernel_rfl) | ((with_reducible refine aw_drawnA T_ok ?_ ?_ ?_ ?_); kernel_rfl; kernel_rfl; (focus (decide +kernel))) | ((with_reducible refine aw_drawnF T_ok ?_ ?_ ?_ ?_); kernel_rfl; kernel_rfl; (focus (decide +kernel))) | (with_reducible refine aw_label ?_) | ((with_reducible refine aw_rfM ?_ ?_); kernel_rfl) | (with_reducible refine aw_skip ?_) | (with_reducible refine aw_exit ?_) | ((with_reducible refine aw_condM ?_ ?_); kernel_rfl) | (with_reducible refine aw_ret ?_)); simp only [↓avP, avQ, avR, forall_const, implies_true, reduceIte, Nat.reduceEqDiff, Nat.reduceAdd, Nat.reduceSub, Int.reduceToNat, Nat.reduceLeDiff, Nat.reduceLT, reduceCtorEq, Int.reduceEq, avS, intD_B, snocI, ty_3, ty_26, ty_4, ty_83, lkM_bool, upM_bool, boolV, boolV_getD, hd]; try simp (disch := omega) only [av_w, av_t1, av_tp, Int.toNat_natCast]))
    exact Sub.of_eq (congrArg aB h0.symm)
def mpB (m : AM Bool) : D := .mp .i 3 (.bool false) (.c (.bool false)) (m.map (·.1)) (m.map fun p => .c (.bool p.2))
theorem FzL_bool {st : Nat → Option Blk} : ∀ m : AM Bool, FzL Try.prog st ((mpV boolV m).map (·.2)) (m.map fun p => .c (.bool p.2))
  | [] => FzL.nil
  | p :: m => FzL.cons (.d rfl) (FzL_bool m)
theorem zip_bool (m : AM Bool) : zipM (m.map (·.1)) (m.map fun p => .c (.bool p.2)) = mpV boolV m := zipM_mpV (fun b => .c (.bool b)) boolV (fun _ => rfl) m
def befF (f : FlowP) (k : Nat) : Int := f.senders + (((f.lots.take k).map (·.inn.length)).sum : Nat)
def goneF (f : FlowP) (k : Nat) : List Int := (f.lots.take k).flatMap (·.inn)
def freeB (bef : Int) (gone : List Int) (s : Int) : Bool := decide (0 ≤ s) && decide (s < bef) && !decide (s ∈ gone)
def outB (n : Nat) (i : Int) : Bool := decide (0 ≤ i) && decide (i < n)
def lotB (bef : Int) (gone : List Int) (x : LotP) : Bool := decide (x.inn.length ≠ 0) && diffB (freeB bef gone) x.inn && (if x.known = true then decide (x.perm.length = x.inn.length) && diffB (outB x.inn.length) x.perm else decide (x.perm.length = 0))
def okAt (f : FlowP) (k : Nat) : Bool := lotB (befF f k) (goneF f k) (f.lots.getD k default)
def validF (f : FlowP) : Bool := (List.range f.lots.length).all (okAt f)
def checkF (f : FlowP) : Int := if 64 < f.senders ∨ 2000 < f.lots.length ∨ 50000 < befF f f.lots.length then 2 else if f.senders < 0 then 250 else if validF f = true then 0 else 250
structure OkL (x : LotP) : Prop where
  inn : ∀ n ∈ x.inn, -9223372036854775808 ≤ n ∧ n ≤ 9223372036854775807
  perm : ∀ n ∈ x.perm, -9223372036854775808 ≤ n ∧ n ≤ 9223372036854775807
  li : x.inn.length ≤ 140737488351232
  lp : x.perm.length ≤ 140737488351232
structure OkF (f : FlowP) : Prop where
  s : -9223372036854775808 ≤ f.senders ∧ f.senders ≤ 9223372036854775807
  l : f.lots.length ≤ 140737488351232
  lots : ∀ x ∈ f.lots, OkL x
theorem okL_default : OkL default := (⟨by simp, by simp, by simp, by simp⟩ : OkL ⟨[], false, []⟩)
theorem OkF.at {f : FlowP} (h : OkF f) (k : Nat) : OkL (f.lots.getD k default) := by
  rcases Nat.lt_or_ge k f.lots.length with hk | hk
  · rw [List.getD, List.getElem?_eq_getElem hk]; exact h.lots _ (by simp)
  · rw [List.getD, List.getElem?_eq_none hk]; exact okL_default
theorem befF_succ {f : FlowP} {k : Nat} (h : k < f.lots.length) : befF f (k + 1) = befF f k + ((f.lots.getD k default).inn.length : Int) := by
  unfold befF
  rw [List.take_succ_eq_append_getElem h, List.map_append, List.sum_append]
  have : f.lots.getD k default = f.lots[k] := by simp [List.getD, h]
  rw [this]
  simp
  omega
theorem goneF_succ {f : FlowP} {k : Nat} (h : k < f.lots.length) : goneF f (k + 1) = goneF f k ++ (f.lots.getD k default).inn := by
  unfold goneF
  rw [List.take_succ_eq_append_getElem h, List.flatMap_append]
  have : f.lots.getD k default = f.lots[k] := by simp [List.getD, h]
  rw [this]
  simp
theorem befF_mono {f : FlowP} {k : Nat} (h : k ≤ f.lots.length) : f.senders ≤ befF f k ∧ befF f k ≤ befF f f.lots.length := by
  unfold befF
  refine ⟨by omega, ?_⟩
  have : ((f.lots.take k).map (·.inn.length)).sum ≤ ((f.lots.take f.lots.length).map (·.inn.length)).sum := by
    rw [List.take_length]
    conv => rhs; rw [← List.take_append_drop k f.lots, List.map_append, List.sum_append]
    omega
  omega
theorem befF_bound {f : FlowP} (h : OkF f) (hl : f.lots.length ≤ 2000) : ∀ k, k ≤ f.lots.length → ((((f.lots.take k).map (·.inn.length)).sum : Nat) : Int) ≤ k * 140737488351232
  | 0, _ => by simp
  | k + 1, hk => by
    have ih := befF_bound h hl k (by omega)
    rw [List.take_succ_eq_append_getElem (by omega), List.map_append, List.sum_append]
    have := (h.lots f.lots[k] (by simp)).li
    simp only [List.map_cons, List.map_nil, List.sum_cons, List.sum_nil]
    omega
end Go.Proofs.Ytlnkmaejiceloaa

