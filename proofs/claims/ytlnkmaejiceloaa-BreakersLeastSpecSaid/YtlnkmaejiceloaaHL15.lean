import Derived.Test.YtlnkmaejiceloaaHL14
import Derived.Test.YtlnkmaejiceloaaHL7
namespace Go.Proofs.Ytlnkmaejiceloaa
set_option linter.unusedSimpArgs false
set_option linter.unusedVariables false
open Go.RowKit
def byD (x : Nat) : List D := [.c (.int .u8 x)]
theorem byD_len (x : Nat) : (dV (byD x)).length = 1 := rfl
theorem byD_take (x : Nat) : (dV (byD x)).take 1 = dV (byD x) := rfl
theorem byD_ln (x : Nat) : (byD x).length = 1 := rfl
theorem byD_hd (x : Nat) : (dV (byD x)).head? = some (.d (.c (.int .u8 x))) := rfl
theorem byD_ic (x : Nat) : (dV (byD x)).length = 1 := rfl
set_option linter.defProp false in
def byD_B := And.intro @byD_len (And.intro @byD_take (And.intro @byD_hd (And.intro @byD_ln @byD_ic)))
def intW (n : Int) : V := .d (.c (.int .i64 n))
theorem upM_int (c : List Int) (y : Int) (m : AM Int) : upM c (.d (.c (.int .i64 y))) (mpV intW m) = mpV intW (upA c y m) := upM_mpV intW c y m
theorem lkM_int (c : List Int) (m : AM Int) : lkM c (mpV intW m) = (lkA c m).map intW := lkM_mpV intW c m
theorem intW_getD (o : Option Int) (b : Int) : (o.map intW).getD (.d (.c (.int .i64 b))) = .d (.c (.int .i64 (o.getD b))) := by cases o <;> rfl
theorem intW_some (o : Option Int) : (o.map intW).isSome = o.isSome := by cases o <;> rfl
theorem keyOk_str_ : KeyOk Try.prog 9 .s := keyOk_str Try.underlying9
def natI (l : List Nat) : List Int := l.map fun n : Nat => (n : Int)
theorem natI_inj : ∀ {a b : List Nat}, natI a = natI b → a = b
  | [], [], _ => rfl
  | [], _ :: _, h => by simp [natI] at h
  | _ :: _, [], h => by simp [natI] at h
  | x :: a, y :: b, h => by
    simp only [natI, List.map_cons, List.cons.injEq] at h
    rw [natI_inj (a := a) (b := b) h.2, show x = y by omega]
theorem u8s_by (l : List Nat) : u8s (l.map byD) = some (natI l) := by
  induction l with
  | nil => rfl
  | cons a l ih =>
    show (u8s (l.map byD)).map _ = _
    rw [ih]; rfl
theorem str_nat {l : List Nat} (h : ∀ n ∈ l, n < 256) : ((strOfNums (natI l)).data.toList.map fun b => (b.toNat : Int)) = natI l := by
  rw [strOfNums_data]
  unfold natI
  rw [List.map_map, List.map_map]
  refine List.map_congr_left fun n hn => ?_
  have := h n hn
  simp [Nat.mod_eq_of_lt this]
theorem rep_by (n : Nat) : List.replicate n (dV (zD (Value.int .u8 0))) = ((List.replicate n (0 : Nat)).map byD).map dV := by
  rw [List.map_replicate, List.map_replicate]
  rfl
theorem by_set (L : List Nat) (s : Nat) (t : Int) (n : Nat) (h : t = n) : ((L.map byD).map dV).set s [V.d (.c (.int .u8 t))] = ((L.set s n).map byD).map dV := by
  subst h
  rw [List.map_set, List.map_set]
  rfl
theorem byD_drop (x : Nat) : List.drop 1 (dV (byD x)) = [] := rfl
theorem by_get (L : List Nat) (j : Nat) : ((L.map byD).map dV).getD j (dV (zD (Value.int .u8 0))) = dV (byD (L.getD j 0)) := by
  simp only [List.getD_eq_getElem?_getD, List.getElem?_map]
  cases L[j]? <;> rfl
def viewV (f : FlowP) (lines : List (List Int)) (s : Int) (m : Nat) : List V := [vI f.senders, vLots f.lots, vIss lines, vI s, .mp m]
def CrowdOk (f : FlowP) (lines : List (List Int)) (s : Int) (M : AM Int) : Prop := ∀ k v, lkA k M = some v → ∀ x, errV f lines x = 0 → natI (keyF lines x f.lots.length) = k → v = (crowdF f lines x s : Int)
def crowdM (M : AM Int) : Blk := .map .s 9 (.int .i64 0) (.d (.c (.int .i64 0))) (mpV intW M)
structure OkV (f : FlowP) (lines : List (List Int)) : Prop where
  f : OkF f
  l : lines.length ≤ 140737488351232
  x : ∀ x ∈ lines, x.length ≤ 140737488351232 ∧ ∀ n ∈ x, -9223372036854775808 ≤ n ∧ n ≤ 9223372036854775807
theorem errV_zero {f : FlowP} {lines : List (List Int)} {x : List Int} (h : errV f lines x = 0) : checkF f = 0 ∧ lines.length = f.lots.length ∧ coalB x = true ∧ knownF f = true ∧ linesB lines f.lots.length = true := by
  unfold errV at h
  by_cases hc : checkF f = 0
  · rw [if_neg (by simpa using hc)] at h
    split at h
    · rename_i h1
      simp only [Bool.and_eq_true] at h1
      refine ⟨hc, ?_, h1.2, h1.1.1, h1.1.2⟩
      have := h1.1.2
      unfold linesB at this
      simp only [Bool.and_eq_true, decide_eq_true_eq] at this
      exact this.2
    · cases h
  · rw [if_pos (by simpa using hc)] at h; exact (hc h).elim
set_option maxRecDepth 100000
set_option maxHeartbeats 4000000
theorem bcrowd_call {B : Base} {tm : List (Nat × V)} {st : List (Nat × Blk)} {q m : Nat} {d : Option Tmp} {K : St → Prop} (f : FlowP) (lines : List (List Int)) (s : Int) (x : List Int) (M : AM Int) (hdB : (match d with | some t => decide (t < B.N) | none => true) = true) (hmq : m < q) (hm : lkB st m = some (crowdM M)) (ho : OkV f lines) (hx : x.length ≤ 140737488351232) (hxb : ∀ n ∈ x, -9223372036854775808 ≤ n ∧ n ≤ 9223372036854775807)
    (hs : 0 ≤ s ∧ s < f.senders) (he : errV f lines x = 0) (hM : CrowdOk f lines s M) (hK : ∀ M' q', CrowdOk f lines s M' → q ≤ q' → K ⟨put d (vI (crowdF f lines x s)) tm, setB m (crowdM M') st, q'⟩) : callI Try.prog B 27 [.agg (viewV f lines s m), vIs x] d ⟨tm, st, q⟩ K ⟨⟩ := by
  have hm0 := hm
  unfold crowdM at hm
  refine callI_fresh (by kernel_rfl) fun hfr => ?_
  refine callI_post ?_
  obtain ⟨z1, z2, z3⟩ := errV_zero he
  have hll := ho.l
  have hsmall := (checkF_zero z1).2.1
  have f0 : lkB st q = none := hfr q (Nat.le_refl _)
  have f1 : lkB st (q + 1) = none := hfr (q + 1) (Nat.le_succ _)
  have f2 : lkB st (q + 1 + 1) = none := hfr (q + 1 + 1) (by show q ≤ q + 1 + 1; omega)
  have m0 : (q = m) = False := eq_false (by omega)
  have m1 : (q + 1 = m) = False := eq_false (by omega)
  have m2 : (q + 1 + 1 = m) = False := eq_false (by omega)
  have m0' : (m = q) = False := eq_false (by omega)
  have m1' : (m = q + 1) = False := eq_false (by omega)
  have m2' : (m = q + 1 + 1) = False := eq_false (by omega)
  repeat' (first | (with_reducible refine aw_seq ?_) | ((with_reducible refine twoG_intro ?_ ?_) <;> intro h <;> first | contradiction | ((try simp only [h, avT]); (first | (guard_hyp h : true = true; clear h) | (guard_hyp h : false = false; clear h) | (revert h; intro _)))) | ((with_reducible refine two_intro ?_ ?_) <;> intro h <;> first | contradiction | ((first | (guard_hyp h : true = true; clear h) | (guard_hyp h : false = false; clear h) | (revert h; intro _)))) | ((with_reducible refine And.intro ?_ ?_); (focus (first | exact keyOk_str_ | omega | rfl | decide | grind))) | (with_reducible refine aw_block ?_) | (with_reducible refine aw_scope ?_) | ((first | ((with_reducible refine aw_regionA T_ok ?_ ?_); kernel_rfl) | ((with_reducible refine aw_drawnA T_ok ?_ ?_ ?_ ?_); kernel_rfl; kernel_rfl; (focus (decide +kernel))) | ((with_reducible refine aw_drawnF T_ok ?_ ?_ ?_ ?_); kernel_rfl; kernel_rfl; (focus (decide +kernel))) | ((with_reducible apply callI_in T_ok Try.func27); (focus (dsimp only [Try.f27])); (focus rfl); (focus rfl); kernel_rfl; (focus exact of_decide_eq_true (by kernel_rfl)); (focus (first | exact hdB | kernel_rfl)); kernel_rfl; intro _) | (with_reducible refine aw_label ?_) | ((with_reducible refine aw_rfM ?_ ?_); kernel_rfl) | (with_reducible refine aw_skip ?_) | (with_reducible refine aw_exit ?_) | ((with_reducible refine aw_condM ?_ ?_); kernel_rfl) | (with_reducible refine aw_ret ?_)); simp only [↓avP, avQ, avR, forall_const, implies_true, reduceIte, Nat.reduceEqDiff, Nat.reduceAdd, Nat.reduceSub, Int.reduceToNat, Nat.reduceLeDiff, Nat.reduceLT, reduceCtorEq, Int.reduceEq, avS, intD_B, byD_B, lotD_B, flowD_B, snocI, ty_3, ty_26, ty_4, ty_25, ty_9, ty_5, ty_73, ty_24, ty_50, ty_22, ty_56, ty_54, issD_get, viewV, lkM_int, upM_int, intW_getD, intW_some, u8s_by, strK.eq_def, rep_by, by_get, byD_drop, nmB, unT_shT, unT_app, setT_sha, setT_sh, lkT_sha, lkT_sh, hm, m0, m1, m2, m0', m1', m2']; try simp (disch := omega) only [av_w, av_t1, av_tp, Int.toNat_natCast]))
  obtain ⟨n, hn⟩ : ∃ n, n = f.lots.length := ⟨_, rfl⟩
  rw [← hn] at z2 hsmall
  refine aw_loopI (fun k : Nat => ⟨(1, vIs x) :: (2, .ptr q 0) :: (5, .mo (q + 1)) :: (19, vIss lines) :: (20, vI n) :: (21, vI k) :: shT 67 tm, (q + 1, .row 5 1 (dV (zD (.int .u8 0))) (((keyAt lines x k n).map byD).map dV)) :: (q, .cells 56 (viewV f lines s m)) :: st, q + 1 + 1⟩)
    (fun k => k ≤ n) (fun k => n - k) 0 (Nat.zero_le _) (wk_less ?_) ?_
  · rw [keyAt_zero, ← z2]
    refine LessS.mk ?_ ?_ ?_
    · dsimp only
      repeat (refine lessT_cons ?_ ?_; (focus (first | rfl | (simp only [lkT_c, lkT_n, lkT_sha, lkT_sh, lkB_c, lkB_n, lkB_setB, if_true, if_false, reduceIte, Nat.reduceEqDiff, Nat.reduceLT, nmB] <;> rfl))))
      first | exact lessT_nil _ | exact lessT_refl _ | (refine lessT_tail ?_; (repeat (refine tailT_cons ?_ ?_; (focus decide))); first | exact tailT_refl _ _ | exact tailT_app rfl)
    · dsimp only
      repeat (first | exact lessB_refl _ | exact lessB_nil _ | (refine lessB_setSelf ?_; (focus assumption)) | (refine lessB_sameE ?_ ?_; (focus (first | rfl | (simp only [lkT_c, lkT_n, lkT_sha, lkT_sh, lkB_c, lkB_n, lkB_setB, if_true, if_false, reduceIte, Nat.reduceEqDiff, Nat.reduceLT, nmB] <;> rfl)))) | (refine lessB_skip ?_ ?_; (focus (first | (with_reducible assumption) | (simp only [lkT_c, lkT_n, lkT_sha, lkT_sh, lkB_c, lkB_n, lkB_setB, if_true, if_false, reduceIte, Nat.reduceEqDiff, Nat.reduceLT, nmB] <;> rfl)))) | (refine lessB_cons ?_ ?_; (focus (first | (with_reducible assumption) | rfl | (simp only [lkT_c, lkT_n, lkT_sha, lkT_sh, lkB_c, lkB_n, lkB_setB, if_true, if_false, reduceIte, Nat.reduceEqDiff, Nat.reduceLT, nmB] <;> rfl)))))
    · dsimp only; omega
  intro k hk
  have hkl := keyAt_len lines x hk
  rcases Nat.lt_or_ge k n with hlt | hge
  · have hdl := ltd hlt
    have hxl : (lines.getD k []).length ≤ 140737488351232 := (ho.x _ (mem_getD (by omega))).1
    have hW := bwithin_spec (lines.getD k []) x hxl hx
    cases hse : seesB lines x k with
    | true =>
      rw [show withinB (lines.getD k []) x = true from hse] at hW
      have hset := by_set (keyAt lines x k n) k 1 1 rfl
      rw [keyAt_yes hlt hse] at hset
      repeat' (first | (with_reducible refine aw_seq ?_) | ((with_reducible refine twoG_intro ?_ ?_) <;> intro h <;> first | contradiction | ((try simp only [h, avT]); (first | (guard_hyp h : true = true; clear h) | (guard_hyp h : false = false; clear h) | (revert h; intro _)))) | ((with_reducible refine two_intro ?_ ?_) <;> intro h <;> first | contradiction | ((first | (guard_hyp h : true = true; clear h) | (guard_hyp h : false = false; clear h) | (revert h; intro _)))) | ((with_reducible refine And.intro ?_ ?_); (focus (first | exact keyOk_str_ | omega | rfl | decide | grind))) | (with_reducible refine aw_block ?_) | (with_reducible refine aw_scope ?_) | ((first | ((with_reducible refine aw_regionA T_ok ?_ ?_); kernel_rfl) | ((with_reducible refine aw_drawnA T_ok ?_ ?_ ?_ ?_); kernel_rfl; kernel_rfl; (focus (decide +kernel))) | ((with_reducible refine aw_drawnF T_ok ?_ ?_ ?_ ?_); kernel_rfl; kernel_rfl; (focus (decide +kernel))) | ((with_reducible refine callK_intro (hW) (by with_unfolding_all rfl) ?_ ?_); kernel_rfl) | ((with_reducible refine callI_spec (hW) (by with_unfolding_all rfl) ?_ ?_ ?_); kernel_rfl; kernel_rfl) | (with_reducible refine aw_label ?_) | ((with_reducible refine aw_rfM ?_ ?_); kernel_rfl) | (with_reducible refine aw_skip ?_) | (with_reducible refine aw_exit ?_) | ((with_reducible refine aw_condM ?_ ?_); kernel_rfl) | (with_reducible refine aw_ret ?_)); simp only [↓avP, avQ, avR, forall_const, implies_true, reduceIte, Nat.reduceEqDiff, Nat.reduceAdd, Nat.reduceSub, Int.reduceToNat, Nat.reduceLeDiff, Nat.reduceLT, reduceCtorEq, Int.reduceEq, avS, intD_B, byD_B, lotD_B, flowD_B, snocI, ty_3, ty_26, ty_4, ty_25, ty_9, ty_5, ty_73, ty_24, ty_50, ty_22, ty_56, ty_54, issD_get, viewV, lkM_int, upM_int, intW_getD, intW_some, u8s_by, strK.eq_def, rep_by, by_get, byD_drop, nmB, unT_shT, unT_app, setT_sha, setT_sh, lkT_sha, lkT_sh, hm, m0, m1, m2, m0', m1', m2', hdl, hkl, hset]; try simp (disch := omega) only [av_w, av_t1, av_tp, Int.toNat_natCast]))
      refine ⟨k + 1, by omega, by dsimp only; omega, wk_less ?_⟩
      refine LessS.mk ?_ ?_ ?_
      · dsimp only
        repeat (refine lessT_cons ?_ ?_; (focus (first | rfl | (simp only [lkT_c, lkT_n, lkT_sha, lkT_sh, lkB_c, lkB_n, lkB_setB, if_true, if_false, reduceIte, Nat.reduceEqDiff, Nat.reduceLT, nmB] <;> rfl))))
        first | exact lessT_nil _ | exact lessT_refl _ | (refine lessT_tail ?_; (repeat (refine tailT_cons ?_ ?_; (focus decide))); first | exact tailT_refl _ _ | exact tailT_app rfl)
      · dsimp only
        repeat (first | exact lessB_refl _ | exact lessB_nil _ | (refine lessB_setSelf ?_; (focus assumption)) | (refine lessB_sameE ?_ ?_; (focus (first | rfl | (simp only [lkT_c, lkT_n, lkT_sha, lkT_sh, lkB_c, lkB_n, lkB_setB, if_true, if_false, reduceIte, Nat.reduceEqDiff, Nat.reduceLT, nmB] <;> rfl)))) | (refine lessB_skip ?_ ?_; (focus (first | (with_reducible assumption) | (simp only [lkT_c, lkT_n, lkT_sha, lkT_sh, lkB_c, lkB_n, lkB_setB, if_true, if_false, reduceIte, Nat.reduceEqDiff, Nat.reduceLT, nmB] <;> rfl)))) | (refine lessB_cons ?_ ?_; (focus (first | (with_reducible assumption) | rfl | (simp only [lkT_c, lkT_n, lkT_sha, lkT_sh, lkB_c, lkB_n, lkB_setB, if_true, if_false, reduceIte, Nat.reduceEqDiff, Nat.reduceLT, nmB] <;> rfl)))))
      · dsimp only; omega
    | false =>
      rw [show withinB (lines.getD k []) x = false from hse] at hW
      have hno := keyAt_no hlt hse
      repeat' (first | (with_reducible refine aw_seq ?_) | ((with_reducible refine twoG_intro ?_ ?_) <;> intro h <;> first | contradiction | ((try simp only [h, avT]); (first | (guard_hyp h : true = true; clear h) | (guard_hyp h : false = false; clear h) | (revert h; intro _)))) | ((with_reducible refine two_intro ?_ ?_) <;> intro h <;> first | contradiction | ((first | (guard_hyp h : true = true; clear h) | (guard_hyp h : false = false; clear h) | (revert h; intro _)))) | ((with_reducible refine And.intro ?_ ?_); (focus (first | exact keyOk_str_ | omega | rfl | decide | grind))) | (with_reducible refine aw_block ?_) | (with_reducible refine aw_scope ?_) | ((first | ((with_reducible refine aw_regionA T_ok ?_ ?_); kernel_rfl) | ((with_reducible refine aw_drawnA T_ok ?_ ?_ ?_ ?_); kernel_rfl; kernel_rfl; (focus (decide +kernel))) | ((with_reducible refine aw_drawnF T_ok ?_ ?_ ?_ ?_); kernel_rfl; kernel_rfl; (focus (decide +kernel))) | ((with_reducible refine callK_intro (hW) (by with_unfolding_all rfl) ?_ ?_); kernel_rfl) | ((with_reducible refine callI_spec (hW) (by with_unfolding_all rfl) ?_ ?_ ?_); kernel_rfl; kernel_rfl) | (with_reducible refine aw_label ?_) | ((with_reducible refine aw_rfM ?_ ?_); kernel_rfl) | (with_reducible refine aw_skip ?_) | (with_reducible refine aw_exit ?_) | ((with_reducible refine aw_condM ?_ ?_); kernel_rfl) | (with_reducible refine aw_ret ?_)); simp only [↓avP, avQ, avR, forall_const, implies_true, reduceIte, Nat.reduceEqDiff, Nat.reduceAdd, Nat.reduceSub, Int.reduceToNat, Nat.reduceLeDiff, Nat.reduceLT, reduceCtorEq, Int.reduceEq, avS, intD_B, byD_B, lotD_B, flowD_B, snocI, ty_3, ty_26, ty_4, ty_25, ty_9, ty_5, ty_73, ty_24, ty_50, ty_22, ty_56, ty_54, issD_get, viewV, lkM_int, upM_int, intW_getD, intW_some, u8s_by, strK.eq_def, rep_by, by_get, byD_drop, nmB, unT_shT, unT_app, setT_sha, setT_sh, lkT_sha, lkT_sh, hm, m0, m1, m2, m0', m1', m2', hdl, hkl]; try simp (disch := omega) only [av_w, av_t1, av_tp, Int.toNat_natCast]))
      refine ⟨k + 1, by omega, by dsimp only; omega, wk_less ?_⟩
      refine LessS.mk ?_ ?_ ?_
      · dsimp only
        repeat (refine lessT_cons ?_ ?_; (focus (first | rfl | (simp only [lkT_c, lkT_n, lkT_sha, lkT_sh, lkB_c, lkB_n, lkB_setB, if_true, if_false, reduceIte, Nat.reduceEqDiff, Nat.reduceLT, nmB, ← hno] <;> rfl))))
        first | exact lessT_nil _ | exact lessT_refl _ | (refine lessT_tail ?_; (repeat (refine tailT_cons ?_ ?_; (focus decide))); first | exact tailT_refl _ _ | exact tailT_app rfl)
      · dsimp only
        repeat (first | exact lessB_refl _ | exact lessB_nil _ | (refine lessB_setSelf ?_; (focus assumption)) | (refine lessB_sameE ?_ ?_; (focus (first | rfl | (simp only [lkT_c, lkT_n, lkT_sha, lkT_sh, lkB_c, lkB_n, lkB_setB, if_true, if_false, reduceIte, Nat.reduceEqDiff, Nat.reduceLT, nmB, ← hno] <;> rfl)))) | (refine lessB_skip ?_ ?_; (focus (first | (with_reducible assumption) | (simp only [lkT_c, lkT_n, lkT_sha, lkT_sh, lkB_c, lkB_n, lkB_setB, if_true, if_false, reduceIte, Nat.reduceEqDiff, Nat.reduceLT, nmB, ← hno] <;> rfl)))) | (refine lessB_cons ?_ ?_; (focus (first | (with_reducible assumption) | rfl | (simp only [lkT_c, lkT_n, lkT_sha, lkT_sh, lkB_c, lkB_n, lkB_setB, if_true, if_false, reduceIte, Nat.reduceEqDiff, Nat.reduceLT, nmB, ← hno] <;> rfl)))))
      · dsimp only; omega
  · obtain rfl : k = n := by omega
    have hdl := ged (Nat.le_refl k)
    rw [keyAt_all]
    have hkey : ∀ n ∈ keyF lines x k, n < 256 := fun n hn => by
      unfold keyF at hn
      obtain ⟨i, _, rfl⟩ := List.mem_map.1 hn
      split <;> decide
    have hstr := str_nat hkey
    have hkln := keyF_len lines x k
    repeat' (first | (with_reducible refine aw_seq ?_) | (with_reducible refine aw_stop (id := 8) ?_) | ((with_reducible refine twoG_intro ?_ ?_) <;> intro h <;> first | contradiction | ((try simp only [h, avT]); (first | (guard_hyp h : true = true; clear h) | (guard_hyp h : false = false; clear h) | (revert h; intro _)))) | ((with_reducible refine two_intro ?_ ?_) <;> intro h <;> first | contradiction | ((first | (guard_hyp h : true = true; clear h) | (guard_hyp h : false = false; clear h) | (revert h; intro _)))) | ((with_reducible refine And.intro ?_ ?_); (focus (first | exact keyOk_str_ | omega | rfl | decide | grind))) | (with_reducible refine aw_block ?_) | (with_reducible refine aw_scope ?_) | ((first | ((with_reducible refine aw_regionA T_ok ?_ ?_); kernel_rfl) | ((with_reducible refine aw_drawnA T_ok ?_ ?_ ?_ ?_); kernel_rfl; kernel_rfl; (focus (decide +kernel))) | ((with_reducible refine aw_drawnF T_ok ?_ ?_ ?_ ?_); kernel_rfl; kernel_rfl; (focus (decide +kernel))) | (with_reducible refine aw_label ?_) | ((with_reducible refine aw_rfM ?_ ?_); kernel_rfl) | (with_reducible refine aw_skip ?_) | (with_reducible refine aw_exit ?_) | ((with_reducible refine aw_condM ?_ ?_); kernel_rfl) | (with_reducible refine aw_ret ?_)); simp only [↓avP, avQ, avR, forall_const, implies_true, reduceIte, Nat.reduceEqDiff, Nat.reduceAdd, Nat.reduceSub, Int.reduceToNat, Nat.reduceLeDiff, Nat.reduceLT, reduceCtorEq, Int.reduceEq, avS, intD_B, byD_B, lotD_B, flowD_B, snocI, ty_3, ty_26, ty_4, ty_25, ty_9, ty_5, ty_73, ty_24, ty_50, ty_22, ty_56, ty_54, issD_get, viewV, lkM_int, upM_int, intW_getD, intW_some, u8s_by, strK.eq_def, rep_by, by_get, byD_drop, nmB, unT_shT, unT_app, setT_sha, setT_sh, lkT_sha, lkT_sh, hm, m0, m1, m2, m0', m1', m2', hdl]; try simp (disch := omega) only [av_w, av_t1, av_tp, Int.toNat_natCast]))
    refine ⟨?_⟩
    refine aw_frzO (q + 1) 5 (el := 5) (sz := 1) (d0V := dV (zD (.int .u8 0))) (byD 0) ((keyF lines x k).map byD) ?_ rfl ?_ ?_
    · exact if_pos rfl
    · simp only [lkT_c, lkT_sha, lkT_sh, reduceIte, Nat.reduceEqDiff, Nat.reduceLT]
    have hnl : (natI (keyF lines x k)).length = k := by unfold natI; rw [List.length_map, keyF_len]
    cases hlk : lkA (natI (keyF lines x k)) M with
    | some c =>
      have hc := hM _ _ hlk x he (by rw [hn])
      subst hc
      repeat' (first | (with_reducible refine aw_seq ?_) | ((with_reducible refine twoG_intro ?_ ?_) <;> intro h <;> first | contradiction | ((try simp only [h, avT]); (first | (guard_hyp h : true = true; clear h) | (guard_hyp h : false = false; clear h) | (revert h; intro _)))) | ((with_reducible refine two_intro ?_ ?_) <;> intro h <;> first | contradiction | ((first | (guard_hyp h : true = true; clear h) | (guard_hyp h : false = false; clear h) | (revert h; intro _)))) | ((with_reducible refine And.intro ?_ ?_); (focus (first | exact keyOk_str_ | omega | rfl | decide | grind))) | (with_reducible refine aw_block ?_) | (with_reducible refine aw_scope ?_) | ((first | ((with_reducible refine aw_regionA T_ok ?_ ?_); kernel_rfl) | ((with_reducible refine aw_drawnA T_ok ?_ ?_ ?_ ?_); kernel_rfl; kernel_rfl; (focus (decide +kernel))) | ((with_reducible refine aw_drawnF T_ok ?_ ?_ ?_ ?_); kernel_rfl; kernel_rfl; (focus (decide +kernel))) | (with_reducible refine aw_label ?_) | ((with_reducible refine aw_rfM ?_ ?_); kernel_rfl) | (with_reducible refine aw_skip ?_) | (with_reducible refine aw_exit ?_) | ((with_reducible refine aw_condM ?_ ?_); kernel_rfl) | (with_reducible refine aw_ret ?_)); simp only [↓avP, avQ, avR, forall_const, implies_true, reduceIte, Nat.reduceEqDiff, Nat.reduceAdd, Nat.reduceSub, Int.reduceToNat, Nat.reduceLeDiff, Nat.reduceLT, reduceCtorEq, Int.reduceEq, avS, intD_B, byD_B, lotD_B, flowD_B, snocI, ty_3, ty_26, ty_4, ty_25, ty_9, ty_5, ty_73, ty_24, ty_50, ty_22, ty_56, ty_54, issD_get, viewV, lkM_int, upM_int, intW_getD, intW_some, u8s_by, strK.eq_def, rep_by, by_get, byD_drop, nmB, unT_shT, unT_app, setT_sha, setT_sh, lkT_sha, lkT_sh, hm, m0, m1, m2, m0', m1', m2', hstr, hlk, hnl]; try simp (disch := omega) only [av_w, av_t1, av_tp, Int.toNat_natCast]))
      refine ⟨_, ?_, hK M (q + 1 + 1) hM (by omega)⟩
      refine LessS.mk ?_ ?_ ?_
      · dsimp only
        repeat (refine lessT_cons ?_ ?_; (focus (first | rfl | (simp only [lkT_c, lkT_n, lkT_sha, lkT_sh, lkB_c, lkB_n, lkB_setB, if_true, if_false, reduceIte, Nat.reduceEqDiff, Nat.reduceLT, nmB, m0, m1, m2, f0, f1, f2] <;> rfl))))
        first | exact lessT_nil _ | exact lessT_refl _ | (refine lessT_tail ?_; (repeat (refine tailT_cons ?_ ?_; (focus decide))); first | exact tailT_refl _ _ | exact tailT_app rfl)
      · dsimp only
        repeat (first | exact lessB_refl _ | exact lessB_nil _ | (refine lessB_setSelf ?_; (focus assumption)) | (refine lessB_sameE ?_ ?_; (focus (first | rfl | (simp only [lkT_c, lkT_n, lkT_sha, lkT_sh, lkB_c, lkB_n, lkB_setB, if_true, if_false, reduceIte, Nat.reduceEqDiff, Nat.reduceLT, nmB, m0, m1, m2, f0, f1, f2] <;> rfl)))) | (refine lessB_skip ?_ ?_; (focus (first | (with_reducible assumption) | (simp only [lkT_c, lkT_n, lkT_sha, lkT_sh, lkB_c, lkB_n, lkB_setB, if_true, if_false, reduceIte, Nat.reduceEqDiff, Nat.reduceLT, nmB, m0, m1, m2, f0, f1, f2] <;> rfl)))) | (refine lessB_cons ?_ ?_; (focus (first | (with_reducible assumption) | rfl | (simp only [lkT_c, lkT_n, lkT_sha, lkT_sh, lkB_c, lkB_n, lkB_setB, if_true, if_false, reduceIte, Nat.reduceEqDiff, Nat.reduceLT, nmB, m0, m1, m2, f0, f1, f2] <;> rfl)))))
      · dsimp only; omega
    | none =>
    have hV := fview_spec f lines x ho.f ho.l ho.x hx hxb
    rw [he] at hV
    have hvc := view_check (lines := lines) (coal := x) z1
    have hvR : viewR f lines x = vF f lines x := by rw [viewR, if_pos he]
    have hE := wends_spec (viewR f lines x) s (by rw [hvR]; exact okF_vF ho.f)
    have hEe : errE (viewR f lines x) s = 0 := by
      rw [errE, hvR, if_neg (by simpa using hvc), if_neg]
      show ¬ (s < 0 ∨ f.senders ≤ s)
      omega
    rw [hEe] at hE
    have hcr : ((endR (viewR f lines x) s).length : Int) = (crowdF f lines x s : Int) := rfl
    repeat' (first | (with_reducible refine aw_seq ?_) | ((with_reducible refine twoG_intro ?_ ?_) <;> intro h <;> first | contradiction | ((try simp only [h, avT]); (first | (guard_hyp h : true = true; clear h) | (guard_hyp h : false = false; clear h) | (revert h; intro _)))) | ((with_reducible refine two_intro ?_ ?_) <;> intro h <;> first | contradiction | ((first | (guard_hyp h : true = true; clear h) | (guard_hyp h : false = false; clear h) | (revert h; intro _)))) | ((with_reducible refine And.intro ?_ ?_); (focus (first | exact keyOk_str_ | omega | rfl | decide | grind))) | (with_reducible refine aw_block ?_) | (with_reducible refine aw_scope ?_) | ((first | ((with_reducible refine aw_regionA T_ok ?_ ?_); kernel_rfl) | ((with_reducible refine aw_drawnA T_ok ?_ ?_ ?_ ?_); kernel_rfl; kernel_rfl; (focus (decide +kernel))) | ((with_reducible refine aw_drawnF T_ok ?_ ?_ ?_ ?_); kernel_rfl; kernel_rfl; (focus (decide +kernel))) | ((with_reducible refine callK_intro (hV) (by with_unfolding_all rfl) ?_ ?_); kernel_rfl) | ((with_reducible refine callI_spec (hV) (by with_unfolding_all rfl) ?_ ?_ ?_); kernel_rfl; kernel_rfl) | ((with_reducible refine callK_intro (hE) (by with_unfolding_all rfl) ?_ ?_); kernel_rfl) | ((with_reducible refine callI_spec (hE) (by with_unfolding_all rfl) ?_ ?_ ?_); kernel_rfl; kernel_rfl) | (with_reducible refine aw_label ?_) | ((with_reducible refine aw_rfM ?_ ?_); kernel_rfl) | (with_reducible refine aw_skip ?_) | (with_reducible refine aw_exit ?_) | ((with_reducible refine aw_condM ?_ ?_); kernel_rfl) | (with_reducible refine aw_ret ?_)); simp only [↓avP, avQ, avR, forall_const, implies_true, reduceIte, Nat.reduceEqDiff, Nat.reduceAdd, Nat.reduceSub, Int.reduceToNat, Nat.reduceLeDiff, Nat.reduceLT, reduceCtorEq, Int.reduceEq, avS, intD_B, byD_B, lotD_B, flowD_B, snocI, ty_3, ty_26, ty_4, ty_25, ty_9, ty_5, ty_73, ty_24, ty_50, ty_22, ty_56, ty_54, issD_get, viewV, lkM_int, upM_int, intW_getD, intW_some, u8s_by, strK.eq_def, rep_by, by_get, byD_drop, nmB, unT_shT, unT_app, setT_sha, setT_sh, lkT_sha, lkT_sh, hm, m0, m1, m2, m0', m1', m2', hstr, hlk, hnl, hcr]; try simp (disch := omega) only [av_w, av_t1, av_tp, Int.toNat_natCast]))
    refine ⟨_, ?_, hK (upA (natI (keyF lines x k)) (crowdF f lines x s : Int) M) (q + 1 + 1 + 1) ?_ (by omega)⟩
    · refine LessS.mk ?_ ?_ ?_
      · dsimp only
        repeat (refine lessT_cons ?_ ?_; (focus (first | rfl | (simp only [lkT_c, lkT_n, lkT_sha, lkT_sh, lkB_c, lkB_n, lkB_setB, if_true, if_false, reduceIte, Nat.reduceEqDiff, Nat.reduceLT, nmB, m0, m1, m2, f0, f1, f2] <;> rfl))))
        first | exact lessT_nil _ | exact lessT_refl _ | (refine lessT_tail ?_; (repeat (refine tailT_cons ?_ ?_; (focus decide))); first | exact tailT_refl _ _ | exact tailT_app rfl)
      · dsimp only
        repeat (first | exact lessB_refl _ | exact lessB_nil _ | (refine lessB_setSelf ?_; (focus assumption)) | (refine lessB_sameE ?_ ?_; (focus (first | rfl | (simp only [lkT_c, lkT_n, lkT_sha, lkT_sh, lkB_c, lkB_n, lkB_setB, if_true, if_false, reduceIte, Nat.reduceEqDiff, Nat.reduceLT, nmB, m0, m1, m2, f0, f1, f2] <;> rfl)))) | (refine lessB_skip ?_ ?_; (focus (first | (with_reducible assumption) | (simp only [lkT_c, lkT_n, lkT_sha, lkT_sh, lkB_c, lkB_n, lkB_setB, if_true, if_false, reduceIte, Nat.reduceEqDiff, Nat.reduceLT, nmB, m0, m1, m2, f0, f1, f2] <;> rfl)))) | (refine lessB_cons ?_ ?_; (focus (first | (with_reducible assumption) | rfl | (simp only [lkT_c, lkT_n, lkT_sha, lkT_sh, lkB_c, lkB_n, lkB_setB, if_true, if_false, reduceIte, Nat.reduceEqDiff, Nat.reduceLT, nmB, m0, m1, m2, f0, f1, f2] <;> rfl)))))
      · dsimp only; omega
    · intro k2 v hv y hy hk2
      rw [lkA_upA] at hv
      by_cases hkk : k2 = natI (keyF lines x k)
      · rw [if_pos hkk] at hv
        cases hv
        rw [crowd_key he hy (natI_inj (by rw [hk2, hkk, hn]))]
      · rw [if_neg hkk] at hv
        exact hM k2 v hv y hy hk2
end Go.Proofs.Ytlnkmaejiceloaa


namespace Go.Proofs.Ytlnkmaejiceloaa
set_option linter.unusedSimpArgs false
set_option linter.unusedVariables false
open Go.RowKit
set_option maxRecDepth 100000
set_option maxHeartbeats 4000000
theorem fl_ex (f : FlowP) : dV (flowD f) = [vI f.senders, vLots f.lots] := rfl
def errB (f : FlowP) (lines : List (List Int)) (x : List Int) (s : Int) : Int := if errV f lines x ≠ 0 then errV f lines x else if s < 0 ∨ f.senders ≤ s then 1 else 0
def brkB (f : FlowP) (lines : List (List Int)) (x : List Int) (s need : Int) : Bool := decide ((crowdF f lines x s : Int) < need)
def brkR (f : FlowP) (lines : List (List Int)) (x : List Int) (s need : Int) : Bool := if errB f lines x s = 0 then brkB f lines x s need else false
theorem crowdOk_nil (f : FlowP) (lines : List (List Int)) (s : Int) : CrowdOk f lines s [] := fun k v h => by cases h
theorem bbreaks_spec (f : FlowP) (lines : List (List Int)) (x : List Int) (s need : Int) (ho : OkV f lines) (hx : x.length ≤ 140737488351232) (hxb : ∀ n ∈ x, -9223372036854775808 ≤ n ∧ n ≤ 9223372036854775807) :
    Spec Try.prog 11 [.agg (flowD f), aIss lines, aIs x, aI s, aI need] (.rt [aB (brkR f lines x s need), aI (errB f lines x s)]) := by
  refine spec_of T_ok Try.func11 (by dsimp only [Try.f11]) rfl rfl (by simp) fun w F => ?_
  have hV := fview_spec f lines x ho.f ho.l ho.x hx hxb
  by_cases he : errV f lines x = 0
  rotate_left
  · have hd : (errV f lines x != 0) = true := by simpa using he
    have heB : errB f lines x s = errV f lines x := by rw [errB, if_pos he]
    have hbR : brkR f lines x s need = false := by rw [brkR, heB, if_neg he]
    repeat' (first | (with_reducible refine aw_seq ?_) | ((with_reducible refine twoG_intro ?_ ?_) <;> intro h <;> first | contradiction | ((try simp only [h, avT]); (first | (guard_hyp h : true = true; clear h) | (guard_hyp h : false = false; clear h) | (revert h; intro _)))) | ((with_reducible refine two_intro ?_ ?_) <;> intro h <;> first | contradiction | ((first | (guard_hyp h : true = true; clear h) | (guard_hyp h : false = false; clear h) | (revert h; intro _)))) | ((with_reducible refine And.intro ?_ ?_); (focus (first | exact keyOk_str_ | omega | rfl | decide | grind))) | (with_reducible refine aw_block ?_) | (with_reducible refine aw_scope ?_) | ((first | ((with_reducible refine aw_regionA T_ok ?_ ?_); kernel_rfl) | ((with_reducible refine aw_drawnA T_ok ?_ ?_ ?_ ?_); kernel_rfl; kernel_rfl; (focus (decide +kernel))) | ((with_reducible refine aw_drawnF T_ok ?_ ?_ ?_ ?_); kernel_rfl; kernel_rfl; (focus (decide +kernel))) | ((with_reducible apply callI_in T_ok Try.func26); (focus (dsimp only [Try.f26])); (focus rfl); (focus rfl); kernel_rfl; (focus exact of_decide_eq_true (by kernel_rfl)); (focus (first | exact hdB | kernel_rfl)); kernel_rfl; intro _) | ((with_reducible refine callK_intro (hV) (by with_unfolding_all rfl) ?_ ?_); kernel_rfl) | ((with_reducible refine callI_spec (hV) (by with_unfolding_all rfl) ?_ ?_ ?_); kernel_rfl; kernel_rfl) | (with_reducible refine aw_label ?_) | ((with_reducible refine aw_rfM ?_ ?_); kernel_rfl) | (with_reducible refine aw_skip ?_) | (with_reducible refine aw_exit ?_) | ((with_reducible refine aw_condM ?_ ?_); kernel_rfl) | (with_reducible refine aw_ret ?_)); simp only [↓avP, avQ, avR, forall_const, implies_true, reduceIte, Nat.reduceEqDiff, Nat.reduceAdd, Nat.reduceSub, Int.reduceToNat, Nat.reduceLeDiff, Nat.reduceLT, reduceCtorEq, Int.reduceEq, avS, intD_B, byD_B, lotD_B, fl_ex, snocI, ty_3, ty_26, ty_4, ty_25, ty_9, ty_24, ty_50, ty_22, ty_56, ty_54, issD_get, nmB, hd]; try simp (disch := omega) only [av_w, av_t1, av_tp, Int.toNat_natCast]))
    rw [heB, hbR]
    exact ⟨Sub.refl _, Sub.refl _⟩
  rw [he] at hV
  have hvR : viewR f lines x = vF f lines x := by rw [viewR, if_pos he]
  by_cases hs : 0 ≤ s ∧ s < f.senders
  rotate_left
  · have hd : (decide (s < 0) || decide (s ≥ f.senders)) = true := by
      rw [Bool.or_eq_true, decide_eq_true_eq, decide_eq_true_eq]; omega
    have heB : errB f lines x s = 1 := by rw [errB, if_neg (by simpa using he), if_pos (by omega)]
    have hbR : brkR f lines x s need = false := by rw [brkR, heB, if_neg (by decide)]
    repeat' (first | (with_reducible refine aw_seq ?_) | ((with_reducible refine twoG_intro ?_ ?_) <;> intro h <;> first | contradiction | ((try simp only [h, avT]); (first | (guard_hyp h : true = true; clear h) | (guard_hyp h : false = false; clear h) | (revert h; intro _)))) | ((with_reducible refine two_intro ?_ ?_) <;> intro h <;> first | contradiction | ((first | (guard_hyp h : true = true; clear h) | (guard_hyp h : false = false; clear h) | (revert h; intro _)))) | ((with_reducible refine And.intro ?_ ?_); (focus (first | exact keyOk_str_ | omega | rfl | decide | grind))) | (with_reducible refine aw_block ?_) | (with_reducible refine aw_scope ?_) | ((first | ((with_reducible refine aw_regionA T_ok ?_ ?_); kernel_rfl) | ((with_reducible refine aw_drawnA T_ok ?_ ?_ ?_ ?_); kernel_rfl; kernel_rfl; (focus (decide +kernel))) | ((with_reducible refine aw_drawnF T_ok ?_ ?_ ?_ ?_); kernel_rfl; kernel_rfl; (focus (decide +kernel))) | ((with_reducible apply callI_in T_ok Try.func26); (focus (dsimp only [Try.f26])); (focus rfl); (focus rfl); kernel_rfl; (focus exact of_decide_eq_true (by kernel_rfl)); (focus (first | exact hdB | kernel_rfl)); kernel_rfl; intro _) | ((with_reducible refine callK_intro (hV) (by with_unfolding_all rfl) ?_ ?_); kernel_rfl) | ((with_reducible refine callI_spec (hV) (by with_unfolding_all rfl) ?_ ?_ ?_); kernel_rfl; kernel_rfl) | (with_reducible refine aw_label ?_) | ((with_reducible refine aw_rfM ?_ ?_); kernel_rfl) | (with_reducible refine aw_skip ?_) | (with_reducible refine aw_exit ?_) | ((with_reducible refine aw_condM ?_ ?_); kernel_rfl) | (with_reducible refine aw_ret ?_)); simp only [↓avP, avQ, avR, forall_const, implies_true, reduceIte, Nat.reduceEqDiff, Nat.reduceAdd, Nat.reduceSub, Int.reduceToNat, Nat.reduceLeDiff, Nat.reduceLT, reduceCtorEq, Int.reduceEq, avS, intD_B, byD_B, lotD_B, fl_ex, snocI, ty_3, ty_26, ty_4, ty_25, ty_9, ty_24, ty_50, ty_22, ty_56, ty_54, issD_get, nmB, hd]; try simp (disch := omega) only [av_w, av_t1, av_tp, Int.toNat_natCast]))
    rw [heB, hbR]
    exact ⟨Sub.refl _, Sub.refl _⟩
  · have hd : (decide (s < 0) || decide (s ≥ f.senders)) = false := by
      rw [Bool.or_eq_false_iff, decide_eq_false_iff_not, decide_eq_false_iff_not]; omega
    have heB : errB f lines x s = 0 := by rw [errB, if_neg (by simpa using he), if_neg (by omega)]
    have hbR : brkR f lines x s need = decide ((crowdF f lines x s : Int) < need) := by rw [brkR, if_pos heB]; rfl
    repeat' (first | (with_reducible refine aw_seq ?_) | ((with_reducible refine twoG_intro ?_ ?_) <;> intro h <;> first | contradiction | ((try simp only [h, avT]); (first | (guard_hyp h : true = true; clear h) | (guard_hyp h : false = false; clear h) | (revert h; intro _)))) | ((with_reducible refine two_intro ?_ ?_) <;> intro h <;> first | contradiction | ((first | (guard_hyp h : true = true; clear h) | (guard_hyp h : false = false; clear h) | (revert h; intro _)))) | ((with_reducible refine And.intro ?_ ?_); (focus (first | exact keyOk_str_ | omega | rfl | decide | grind))) | (with_reducible refine aw_block ?_) | (with_reducible refine aw_scope ?_) | ((first | ((with_reducible refine aw_regionA T_ok ?_ ?_); kernel_rfl) | ((with_reducible refine aw_drawnA T_ok ?_ ?_ ?_ ?_); kernel_rfl; kernel_rfl; (focus (decide +kernel))) | ((with_reducible refine aw_drawnF T_ok ?_ ?_ ?_ ?_); kernel_rfl; kernel_rfl; (focus (decide +kernel))) | ((with_reducible apply callI_in T_ok Try.func26); (focus (dsimp only [Try.f26])); (focus rfl); (focus rfl); kernel_rfl; (focus exact of_decide_eq_true (by kernel_rfl)); (focus (first | exact hdB | kernel_rfl)); kernel_rfl; intro _) | ((with_reducible refine callK_intro (hV) (by with_unfolding_all rfl) ?_ ?_); kernel_rfl) | ((with_reducible refine callI_spec (hV) (by with_unfolding_all rfl) ?_ ?_ ?_); kernel_rfl; kernel_rfl) | (with_reducible refine aw_label ?_) | ((with_reducible refine aw_rfM ?_ ?_); kernel_rfl) | (with_reducible refine aw_skip ?_) | (with_reducible refine aw_exit ?_) | ((with_reducible refine aw_condM ?_ ?_); kernel_rfl) | (with_reducible refine aw_ret ?_)); simp only [↓avP, avQ, avR, forall_const, implies_true, reduceIte, Nat.reduceEqDiff, Nat.reduceAdd, Nat.reduceSub, Int.reduceToNat, Nat.reduceLeDiff, Nat.reduceLT, reduceCtorEq, Int.reduceEq, avS, intD_B, byD_B, lotD_B, fl_ex, snocI, ty_3, ty_26, ty_4, ty_25, ty_9, ty_24, ty_50, ty_22, ty_56, ty_54, issD_get, nmB, hd]; try simp (disch := omega) only [av_w, av_t1, av_tp, Int.toNat_natCast]))
    refine bcrowd_call f lines s x [] rfl (show 3 < 5 by decide) rfl ho hx hxb hs he (crowdOk_nil f lines s) fun M' q' hM' hq => ?_
    simp only [↓avP, avQ, avR, forall_const, implies_true, reduceIte, Nat.reduceEqDiff, Nat.reduceAdd, Nat.reduceSub, Int.reduceToNat, Nat.reduceLeDiff, Nat.reduceLT, reduceCtorEq, Int.reduceEq, avS, intD_B, byD_B, lotD_B, fl_ex, snocI, ty_3, ty_26, ty_4, ty_25, ty_9, ty_24, ty_50, ty_22, ty_56, ty_54, issD_get, nmB]
    repeat' (first | (with_reducible refine aw_seq ?_) | ((with_reducible refine twoG_intro ?_ ?_) <;> intro h <;> first | contradiction | ((try simp only [h, avT]); (first | (guard_hyp h : true = true; clear h) | (guard_hyp h : false = false; clear h) | (revert h; intro _)))) | ((with_reducible refine two_intro ?_ ?_) <;> intro h <;> first | contradiction | ((first | (guard_hyp h : true = true; clear h) | (guard_hyp h : false = false; clear h) | (revert h; intro _)))) | ((with_reducible refine And.intro ?_ ?_); (focus (first | exact keyOk_str_ | omega | rfl | decide | grind))) | (with_reducible refine aw_block ?_) | (with_reducible refine aw_scope ?_) | ((first | ((with_reducible refine aw_regionA T_ok ?_ ?_); kernel_rfl) | ((with_reducible refine aw_drawnA T_ok ?_ ?_ ?_ ?_); kernel_rfl; kernel_rfl; (focus (decide +kernel))) | ((with_reducible refine aw_drawnF T_ok ?_ ?_ ?_ ?_); kernel_rfl; kernel_rfl; (focus (decide +kernel))) | (with_reducible refine aw_label ?_) | ((with_reducible refine aw_rfM ?_ ?_); kernel_rfl) | (with_reducible refine aw_skip ?_) | (with_reducible refine aw_exit ?_) | ((with_reducible refine aw_condM ?_ ?_); kernel_rfl) | (with_reducible refine aw_ret ?_)); simp only [↓avP, avQ, avR, forall_const, implies_true, reduceIte, Nat.reduceEqDiff, Nat.reduceAdd, Nat.reduceSub, Int.reduceToNat, Nat.reduceLeDiff, Nat.reduceLT, reduceCtorEq, Int.reduceEq, avS, intD_B, byD_B, lotD_B, fl_ex, snocI, ty_3, ty_26, ty_4, ty_25, ty_9, ty_24, ty_50, ty_22, ty_56, ty_54, issD_get, nmB]; try simp (disch := omega) only [av_w, av_t1, av_tp, Int.toNat_natCast]))
    rw [heB, hbR]
    exact ⟨Sub.refl _, Sub.refl _⟩
end Go.Proofs.Ytlnkmaejiceloaa

