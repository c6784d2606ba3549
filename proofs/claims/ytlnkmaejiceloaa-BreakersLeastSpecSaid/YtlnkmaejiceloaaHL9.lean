import Derived.Test.YtlnkmaejiceloaaHL7
import Derived.Test.YtlnkmaejiceloaaHL8
namespace Go.Proofs.Ytlnkmaejiceloaa
set_option linter.unusedSimpArgs false
set_option linter.unusedVariables false
open Go.RowKit
def u64D (x : Nat) : List D := [.c (.int .u64 x)]
theorem u64D_len (x : Nat) : (dV (u64D x)).length = 1 := rfl
theorem u64D_take (x : Nat) : (dV (u64D x)).take 1 = dV (u64D x) := rfl
theorem u64D_ln (x : Nat) : (u64D x).length = 1 := rfl
theorem u64D_hd (x : Nat) : (dV (u64D x)).head? = some (.d (.c (.int .u64 x))) := rfl
theorem u64D_ic (x : Nat) : (dV (u64D x)).length = 1 := rfl
set_option linter.defProp false in
def u64D_B := And.intro @u64D_len (And.intro @u64D_take (And.intro @u64D_hd (And.intro @u64D_ln @u64D_ic)))
set_option maxRecDepth 100000
set_option maxHeartbeats 4000000
abbrev aWs (ws : List Nat) : A := .one (.sl 1 (u64D 0) (ws.map u64D))
theorem repU (k : Nat) : List.replicate k (dV (zD (Value.int .u64 0))) = ((List.replicate k 0).map u64D).map dV := by
  rw [List.map_replicate, List.map_replicate]
  rfl
theorem rowU_get (ws : List Nat) (k : Nat) : ((ws.map u64D).map dV).getD k (dV (zD (Value.int .u64 0))) = dV (u64D (ws.getD k 0)) := by
  simp only [List.getD_eq_getElem?_getD, List.getElem?_map]
  cases ws[k]? <;> rfl
theorem rowU_set (ws : List Nat) (n : Nat) : ((ws.map u64D).map dV).set (n / 64) (V.d (.c (.int .u64 ((ws.getD (n / 64) 0 ||| 2 ^ (n % 64) : Nat) : Int))) :: List.drop 1 (dV (u64D (ws.getD (n / 64) 0)))) = ((addS ws n).map u64D).map dV := by
  unfold addS
  rw [List.map_set, List.map_set]
  rfl
theorem subVs_rowD (ρ : Ren) (es : List (List D)) : subVs ρ (es.map dV).flatten (es.map dV).flatten := by
  rw [flat_dV]; exact subVs_d _ _
theorem quo64 (n : Nat) : (n : Int).tdiv 64 = ((n / 64 : Nat) : Int) := by
  rw [Int.tdiv_eq_ediv_of_nonneg (by omega)]; omega
theorem rem64 (n : Nat) : (n : Int).tmod 64 = ((n % 64 : Nat) : Int) := by
  rw [Int.tmod_eq_emod_of_nonneg (by omega)]; omega
theorem whas_spec (ws : List Nat) (n : Nat) (hw : OkW ws) (hn : n / 64 < ws.length) (hl : ws.length ≤ 1000000) : Spec Try.prog 81 [aWs ws, aI n] (.r1 (aB (setOf ws n))) := by
  refine spec_of T_ok Try.func81 (by dsimp only [Try.f81]) rfl rfl (by simp) fun w F => ?_
  have h1 := quo64 n
  have h2 := rem64 n
  have hh := has_wordN (hw.at (n / 64)) (Nat.mod_lt n (show 0 < 64 by omega))
  repeat' (first | (with_reducible refine aw_seq ?_) | ((with_reducible refine twoG_intro ?_ ?_) <;> intro h <;> first | contradiction | ((try simp only [h, avT]); (first | (guard_hyp h : true = true; clear h) | (guard_hyp h : false = false; clear h) | (revert h; intro _)))) | ((with_reducible refine two_intro ?_ ?_) <;> intro h <;> first | contradiction | ((first | (guard_hyp h : true = true; clear h) | (guard_hyp h : false = false; clear h) | (revert h; intro _)))) | ((with_reducible refine And.intro ?_ ?_); (focus (first | omega | rfl | decide | grind))) | (with_reducible refine aw_block ?_) | (with_reducible refine aw_scope ?_) | ((first | ((with_reducible refine aw_regionA T_ok ?_ ?_); kernel_rfl) | ((with_reducible refine aw_drawnA T_ok ?_ ?_ ?_ ?_); kernel_rfl; kernel_rfl; (focus (decide +kernel))) | ((with_reducible refine aw_drawnF T_ok ?_ ?_ ?_ ?_); kernel_rfl; kernel_rfl; (focus (decide +kernel))) | (with_reducible refine aw_label ?_) | ((with_reducible refine aw_rfM ?_ ?_); kernel_rfl) | (with_reducible refine aw_skip ?_) | (with_reducible refine aw_exit ?_) | ((with_reducible refine aw_condM ?_ ?_); kernel_rfl) | (with_reducible refine aw_ret ?_)); simp only [↓avP, avQ, avR, forall_const, implies_true, reduceIte, Nat.reduceEqDiff, Nat.reduceAdd, Nat.reduceSub, Int.reduceToNat, Nat.reduceLeDiff, Nat.reduceLT, reduceCtorEq, Int.reduceEq, avS, intD_B, u64D_B, lotD_B, flowD_B, snocI, snocL, repU, rowU_get, rowU_set, ty_3, ty_102, ty_96, ty_26, ty_4, ty_24, ty_50, ty_22, ty_25, h1, h2, hh]; try simp (disch := omega) only [av_w, av_t1, av_tp, Int.toNat_natCast]))
  exact Sub.refl _
theorem wspots_spec (f : FlowP) (s : Nat) (hf : OkF f) (hc : checkF f = 0) (hs : (s : Int) < f.senders) : Spec Try.prog 80 [.agg (flowD f), aI s] (.r1 (aWs (spW f s f.lots.length))) := by
  refine spec_of T_ok Try.func80 (by dsimp only [Try.f80]) rfl rfl (by simp) fun w F => ?_
  obtain ⟨z1, z2, z3, z4, z5⟩ := checkF_zero hc
  have hfl := hf.l
  repeat' (first | (with_reducible refine aw_seq ?_) | ((with_reducible refine twoG_intro ?_ ?_) <;> intro h <;> first | contradiction | ((try simp only [h, avT]); (first | (guard_hyp h : true = true; clear h) | (guard_hyp h : false = false; clear h) | (revert h; intro _)))) | ((with_reducible refine two_intro ?_ ?_) <;> intro h <;> first | contradiction | ((first | (guard_hyp h : true = true; clear h) | (guard_hyp h : false = false; clear h) | (revert h; intro _)))) | ((with_reducible refine And.intro ?_ ?_); (focus (first | omega | rfl | decide | grind))) | (with_reducible refine aw_block ?_) | (with_reducible refine aw_scope ?_) | ((first | ((with_reducible refine aw_regionA T_ok ?_ ?_); kernel_rfl) | ((with_reducible refine aw_drawnA T_ok ?_ ?_ ?_ ?_); kernel_rfl; kernel_rfl; (focus (decide +kernel))) | ((with_reducible refine aw_drawnF T_ok ?_ ?_ ?_ ?_); kernel_rfl; kernel_rfl; (focus (decide +kernel))) | (with_reducible refine aw_label ?_) | ((with_reducible refine aw_rfM ?_ ?_); kernel_rfl) | (with_reducible refine aw_skip ?_) | (with_reducible refine aw_exit ?_) | ((with_reducible refine aw_condM ?_ ?_); kernel_rfl) | (with_reducible refine aw_ret ?_)); simp only [↓avP, avQ, avR, forall_const, implies_true, reduceIte, Nat.reduceEqDiff, Nat.reduceAdd, Nat.reduceSub, Int.reduceToNat, Nat.reduceLeDiff, Nat.reduceLT, reduceCtorEq, Int.reduceEq, avS, intD_B, u64D_B, lotD_B, flowD_B, snocI, snocL, repU, rowU_get, rowU_set, ty_3, ty_102, ty_96, ty_26, ty_4, ty_24, ty_50, ty_22, ty_25]; try simp (disch := omega) only [av_w, av_t1, av_tp, Int.toNat_natCast]))
  refine aw_loopI (fun k : Nat => ⟨[(1, vI s), (2, .ptr 0 0), (5, vI (befF f k)), (16, .d (.sl 3 (lotD default) (f.lots.map lotD))), (17, vI f.lots.length), (18, vI k)], [(0, .cells 24 (dV (flowD f)))], 1⟩)
    (fun k => k ≤ f.lots.length) (fun k => f.lots.length - k) 0 (Nat.zero_le _) (wk_of [(0, some 0)] rfl rfl ?_ ?_) ?_
  · simp only [wkA, reduceIte, Nat.reduceEqDiff]
    (repeat' (first | ((exact congrArg (fun n => D.c (Value.int IntKind.i64 n)) (show f.senders = befF f 0 by simp [befF]))) | exact trivial | rfl | exact rfl | exact subVs_d _ _ | exact subVs_dm _ _ | exact subD_refl _ | refine And.intro ?_ ?_))
  · simp only [wkA, reduceIte, Nat.reduceEqDiff]
    (repeat' (first | exact trivial | rfl | exact rfl | exact subVs_d _ _ | exact subVs_dm _ _ | exact subD_refl _ | refine And.intro ?_ ?_))
  intro k hk
  rcases Nat.lt_or_ge k f.lots.length with hlt | hge
  · have hd := ltd hlt
    have hb1 := befF_succ hlt
    have hb2 := befF_mono (f := f) (k := k + 1) (by omega)
    have hb3 := befF_mono (f := f) (k := k) (by omega)
    have hok := hf.at k
    obtain ⟨x, hx⟩ : ∃ x, x = f.lots.getD k default := ⟨_, rfl⟩
    rw [← hx] at hb1 hok
    have hli := hok.li
    repeat' (first | (with_reducible refine aw_seq ?_) | ((with_reducible refine twoG_intro ?_ ?_) <;> intro h <;> first | contradiction | ((try simp only [h, avT]); (first | (guard_hyp h : true = true; clear h) | (guard_hyp h : false = false; clear h) | (revert h; intro _)))) | ((with_reducible refine two_intro ?_ ?_) <;> intro h <;> first | contradiction | ((first | (guard_hyp h : true = true; clear h) | (guard_hyp h : false = false; clear h) | (revert h; intro _)))) | ((with_reducible refine And.intro ?_ ?_); (focus (first | omega | rfl | decide | grind))) | (with_reducible refine aw_block ?_) | (with_reducible refine aw_scope ?_) | ((first | ((with_reducible refine aw_regionA T_ok ?_ ?_); kernel_rfl) | ((with_reducible refine aw_drawnA T_ok ?_ ?_ ?_ ?_); kernel_rfl; kernel_rfl; (focus (decide +kernel))) | ((with_reducible refine aw_drawnF T_ok ?_ ?_ ?_ ?_); kernel_rfl; kernel_rfl; (focus (decide +kernel))) | (with_reducible refine aw_label ?_) | ((with_reducible refine aw_rfM ?_ ?_); kernel_rfl) | (with_reducible refine aw_skip ?_) | (with_reducible refine aw_exit ?_) | ((with_reducible refine aw_condM ?_ ?_); kernel_rfl) | (with_reducible refine aw_ret ?_)); simp only [↓avP, avQ, avR, forall_const, implies_true, reduceIte, Nat.reduceEqDiff, Nat.reduceAdd, Nat.reduceSub, Int.reduceToNat, Nat.reduceLeDiff, Nat.reduceLT, reduceCtorEq, Int.reduceEq, avS, intD_B, u64D_B, lotD_B, flowD_B, snocI, snocL, repU, rowU_get, rowU_set, ty_3, ty_102, ty_96, ty_26, ty_4, ty_24, ty_50, ty_22, ty_25, hd, ← hx]; try simp (disch := omega) only [av_w, av_t1, av_tp, Int.toNat_natCast]))
    refine ⟨k + 1, by omega, by dsimp only; omega, wk_of [(0, some 0)] rfl rfl ?_ ?_⟩
    · simp only [wkA, reduceIte, Nat.reduceEqDiff]
      rw [hb1]
      (repeat' (first | exact trivial | rfl | exact rfl | exact subVs_d _ _ | exact subVs_dm _ _ | exact subD_refl _ | refine And.intro ?_ ?_))
    · simp only [wkA, reduceIte, Nat.reduceEqDiff]
      (repeat' (first | exact trivial | rfl | exact rfl | exact subVs_d _ _ | exact subVs_dm _ _ | exact subD_refl _ | refine And.intro ?_ ?_))
  obtain rfl : k = f.lots.length := by omega
  have hd := ged (Nat.le_refl f.lots.length)
  have hb3 := befF_mono (f := f) (Nat.le_refl f.lots.length)
  obtain ⟨M, hM⟩ : ∃ M : Nat, befF f f.lots.length = M := ⟨(befF f f.lots.length).toNat, by omega⟩
  have hq := quo64 M
  have h1 := quo64 s
  have h2 := rem64 s
  have hnw : nW f = M / 64 + 1 := by unfold nW; rw [hM]; rfl
  have hsm : s < M := by omega
  obtain ⟨w0, hw0⟩ : ∃ w0, w0 = List.replicate (M / 64 + 1) 0 := ⟨_, rfl⟩
  have hl0 : w0.length = M / 64 + 1 := by rw [hw0, List.length_replicate]
  have ha := add_wordN (w := w0.getD (s / 64) 0) (r := s % 64) ((hw0 ▸ okW_none _ : OkW w0).at _) (Nat.mod_lt s (by omega))
  have hs0 : spW f s 0 = addS w0 s := by rw [spW, hnw, hw0]
  rw [hM]
  repeat' (first | (with_reducible refine aw_seq ?_) | ((with_reducible refine twoG_intro ?_ ?_) <;> intro h <;> first | contradiction | ((try simp only [h, avT]); (first | (guard_hyp h : true = true; clear h) | (guard_hyp h : false = false; clear h) | (revert h; intro _)))) | ((with_reducible refine two_intro ?_ ?_) <;> intro h <;> first | contradiction | ((first | (guard_hyp h : true = true; clear h) | (guard_hyp h : false = false; clear h) | (revert h; intro _)))) | ((with_reducible refine And.intro ?_ ?_); (focus (first | omega | rfl | decide | grind))) | (with_reducible refine aw_block ?_) | (with_reducible refine aw_scope ?_) | ((first | ((with_reducible refine aw_regionA T_ok ?_ ?_); kernel_rfl) | ((with_reducible refine aw_drawnA T_ok ?_ ?_ ?_ ?_); kernel_rfl; kernel_rfl; (focus (decide +kernel))) | ((with_reducible refine aw_drawnF T_ok ?_ ?_ ?_ ?_); kernel_rfl; kernel_rfl; (focus (decide +kernel))) | ((with_reducible apply callI_in T_ok Try.func87); (focus (dsimp only [Try.f87])); (focus rfl); (focus rfl); kernel_rfl; (focus exact of_decide_eq_true (by kernel_rfl)); (focus (first | exact hdB | kernel_rfl)); kernel_rfl; intro _) | (with_reducible refine aw_label ?_) | ((with_reducible refine aw_rfM ?_ ?_); kernel_rfl) | (with_reducible refine aw_skip ?_) | (with_reducible refine aw_exit ?_) | ((with_reducible refine aw_condM ?_ ?_); kernel_rfl) | (with_reducible refine aw_ret ?_)); simp only [↓avP, avQ, avR, forall_const, implies_true, reduceIte, Nat.reduceEqDiff, Nat.reduceAdd, Nat.reduceSub, Int.reduceToNat, Nat.reduceLeDiff, Nat.reduceLT, reduceCtorEq, Int.reduceEq, avS, intD_B, u64D_B, lotD_B, flowD_B, snocI, snocL, repU, rowU_get, rowU_set, ty_3, ty_102, ty_96, ty_26, ty_4, ty_24, ty_50, ty_22, ty_25, hd, hq, h1, h2, ← hw0, ha]; try simp (disch := omega) only [av_w, av_t1, av_tp, Int.toNat_natCast]))
  refine aw_loopI (fun k : Nat => ⟨[(2, .ptr 0 0), (8, .ptr 2 0), (9, .ptr 3 0), (10, .fn 88 [.ptr 2 0, .ptr 3 0]), (39, .d (.sl 3 (lotD default) (f.lots.map lotD))), (40, vI f.lots.length), (41, vI k)],
      [(3, .cells 3 [vI (befF f k)]), (2, .cells 96 [.mo 1]), (1, .row 102 1 (dV (zD (.int .u64 0))) (((spW f s k).map u64D).map dV)), (0, .cells 24 (dV (flowD f)))], 4⟩)
    (fun k => k ≤ f.lots.length) (fun k => f.lots.length - k) 0 (Nat.zero_le _) (wk_of [(0, some 0), (1, some 1), (2, some 2), (3, some 14)] rfl rfl ?_ ?_) ?_
  · simp only [wkA, reduceIte, Nat.reduceEqDiff]
    (repeat' (first | exact trivial | rfl | exact rfl | exact subVs_d _ _ | exact subVs_dm _ _ | exact subD_refl _ | refine And.intro ?_ ?_))
  · simp only [wkA, reduceIte, Nat.reduceEqDiff]
    rw [hs0]
    (repeat' (first | ((exact subVs_rowD _ _)) | ((exact congrArg (fun n => D.c (Value.int IntKind.i64 n)) (show f.senders = befF f 0 by simp [befF]))) | exact trivial | rfl | exact rfl | exact subVs_d _ _ | exact subVs_dm _ _ | exact subD_refl _ | refine And.intro ?_ ?_))
  clear ha hl0 hs0 hw0 h1 h2 hq
  intro k hk
  rcases Nat.lt_or_ge k f.lots.length with hlt | hge
  · have hd2 := ltd hlt
    have hg := goodL_at hc hlt
    have hb1 := befF_succ hlt
    have hb2 := befF_mono (f := f) (k := k + 1) (by omega)
    have hb4 := befF_mono (f := f) (k := k) (by omega)
    have hok := hf.at k
    have hwo := spW_ok f s k
    have hwl := spW_len f s k
    have hsu : spW f s (k + 1) = lotW (befF f k).toNat (f.lots.getD k default) (f.lots.getD k default).inn.length (spW f s k) := rfl
    obtain ⟨ws, hws⟩ : ∃ ws, ws = spW f s k := ⟨_, rfl⟩
    obtain ⟨x, hx⟩ : ∃ x, x = f.lots.getD k default := ⟨_, rfl⟩
    obtain ⟨b, hbk⟩ : ∃ b : Nat, befF f k = b := ⟨(befF f k).toNat, by omega⟩
    rw [← hws] at hwo hwl hsu ⊢
    rw [← hx] at hg hb1 hok hsu
    rw [hbk] at hg hb1 hb4 hsu ⊢
    rw [Int.toNat_natCast] at hsu
    have hli := hok.li
    have hany := ints_contains x.inn (fun t => setOf ws t.toNat) hli
    have hin : ∀ t ∈ x.inn, 0 ≤ t ∧ t < (b : Int) := fun t ht => ⟨(hg.fr t ht).1, (hg.fr t ht).2.1⟩
    have hlen : ws.length = M / 64 + 1 := by rw [hwl, hnw]
    have hfz : ∀ asA r, FnM aI (fun t : Int => setOf ws t.toNat) x.inn asA r → Spec Try.prog 81 ([aWs ws] ++ asA) r := by
      rintro asA r ⟨t, ht, rfl, rfl⟩
      have := hin t ht
      have h := whas_spec ws t.toNat hwo (by omega) (by omega)
      rw [Int.toNat_of_nonneg this.1] at h
      exact h
    have hsb : (x.inn.any fun t => setOf ws t.toNat) = someB x ws := rfl
    rw [hsb] at hany
    repeat' (first | (with_reducible refine aw_seq ?_) | ((with_reducible refine twoG_intro ?_ ?_) <;> intro h <;> first | contradiction | ((try simp only [h, avT]); (first | (guard_hyp h : true = true; clear h) | (guard_hyp h : false = false; clear h) | (revert h; intro _)))) | ((with_reducible refine two_intro ?_ ?_) <;> intro h <;> first | contradiction | ((first | (guard_hyp h : true = true; clear h) | (guard_hyp h : false = false; clear h) | (revert h; intro _)))) | ((with_reducible refine And.intro ?_ ?_); (focus (first | omega | rfl | decide | grind))) | (with_reducible refine aw_block ?_) | (with_reducible refine aw_scope ?_) | ((first | ((with_reducible refine aw_regionA T_ok ?_ ?_); kernel_rfl) | ((with_reducible refine aw_drawnA T_ok ?_ ?_ ?_ ?_); kernel_rfl; kernel_rfl; (focus (decide +kernel))) | ((with_reducible refine aw_drawnF T_ok ?_ ?_ ?_ ?_); kernel_rfl; kernel_rfl; (focus (decide +kernel))) | ((with_reducible apply callI_in T_ok Try.func88); (focus (dsimp only [Try.f88])); (focus rfl); (focus rfl); kernel_rfl; (focus exact of_decide_eq_true (by kernel_rfl)); (focus (first | exact hdB | kernel_rfl)); kernel_rfl; intro _) | ((with_reducible refine callK_fz (hany) rfl ?_ ?_ ?_); (focus (repeat' (first | (exact FzA.nil) | (exact FzL.nil) | (exact FzLL.nil) | (exact FzLL_dV _) | (exact Fz.d rfl) | (refine FzA.one ?_ ?_) | (refine FzA.agg ?_ ?_) | (refine FzL.cons ?_ ?_) | (refine FzLL.cons ?_ ?_) | (exact hfz) | (refine Fz.fn ?_ (by kernel_rfl) (hfz)) | (refine Fz.fm ?_ (by kernel_rfl) (hfz)) | (refine Fz.fc (by kernel_rfl) (hfz)) | (refine Fz.pt rfl ?_) | (refine Fz.mp rfl ?_ ?_ ?_) | (refine Fz.row rfl ?_) | (refine Fz.ag ?_))); done); kernel_rfl) | ((with_reducible refine callI_fz (hany) rfl ?_ ?_ ?_ ?_); (focus (repeat' (first | (exact FzA.nil) | (exact FzL.nil) | (exact FzLL.nil) | (exact FzLL_dV _) | (exact Fz.d rfl) | (refine FzA.one ?_ ?_) | (refine FzA.agg ?_ ?_) | (refine FzL.cons ?_ ?_) | (refine FzLL.cons ?_ ?_) | (exact hfz) | (refine Fz.fn ?_ (by kernel_rfl) (hfz)) | (refine Fz.fm ?_ (by kernel_rfl) (hfz)) | (refine Fz.fc (by kernel_rfl) (hfz)) | (refine Fz.pt rfl ?_) | (refine Fz.mp rfl ?_ ?_ ?_) | (refine Fz.row rfl ?_) | (refine Fz.ag ?_))); done); kernel_rfl; kernel_rfl) | (with_reducible refine aw_label ?_) | ((with_reducible refine aw_rfM ?_ ?_); kernel_rfl) | (with_reducible refine aw_skip ?_) | (with_reducible refine aw_exit ?_) | ((with_reducible refine aw_condM ?_ ?_); kernel_rfl) | (with_reducible refine aw_ret ?_)); simp only [↓avP, avQ, avR, forall_const, implies_true, reduceIte, Nat.reduceEqDiff, Nat.reduceAdd, Nat.reduceSub, Int.reduceToNat, Nat.reduceLeDiff, Nat.reduceLT, reduceCtorEq, Int.reduceEq, avS, intD_B, u64D_B, lotD_B, flowD_B, snocI, snocL, repU, rowU_get, rowU_set, ty_3, ty_102, ty_96, ty_26, ty_4, ty_24, ty_50, ty_22, ty_25, hd2, ← hx]; try simp (disch := omega) only [av_w, av_t1, av_tp, Int.toNat_natCast]))
    refine aw_loopI (fun i : Nat => ⟨[(1, .ptr 2 0), (2, .ptr 3 0), (3, .ptr 5 0), (4, vB (someB x ws)), (13, vIs x.inn), (14, vI x.inn.length), (15, vI i), (53, .ptr 0 0), (59, .ptr 2 0), (60, .ptr 3 0), (61, .fn 88 [.ptr 2 0, .ptr 3 0]), (90, .d (.sl 3 (lotD default) (f.lots.map lotD))), (91, vI f.lots.length), (92, vI k)],
        [(5, .cells 50 (dV (lotD x))), (3, .cells 3 [vI b]), (2, .cells 96 [.mo 1]), (1, .row 102 1 (dV (zD (.int .u64 0))) (((lotW b x i ws).map u64D).map dV)), (0, .cells 24 (dV (flowD f)))], 6⟩)
      (fun i => i ≤ x.inn.length) (fun i => x.inn.length - i) 0 (Nat.zero_le _) (wk_of [(0, some 0), (1, some 1), (2, some 2), (3, some 3), (5, some 5)] rfl rfl ?_ ?_) ?_
    · simp only [wkA, reduceIte, Nat.reduceEqDiff]
      (repeat' (first | exact trivial | rfl | exact rfl | exact subVs_d _ _ | exact subVs_dm _ _ | exact subD_refl _ | refine And.intro ?_ ?_))
    · simp only [wkA, reduceIte, Nat.reduceEqDiff]
      rw [show lotW b x 0 ws = ws by unfold lotW; split <;> rfl]
      (repeat' (first | ((exact subVs_rowD _ _)) | exact trivial | rfl | exact rfl | exact subVs_d _ _ | exact subVs_dm _ _ | exact subD_refl _ | refine And.intro ?_ ?_))
    intro i hi
    rcases Nat.lt_or_ge i x.inn.length with hil | hig
    · have hd3 := ltd hil
      cases hsm : someB x ws with
      | false =>
        have e : ∀ i, lotW b x i ws = ws := fun i => by unfold lotW; rw [hsm]; rfl
        rw [e i]
        repeat' (first | (with_reducible refine aw_seq ?_) | ((with_reducible refine twoG_intro ?_ ?_) <;> intro h <;> first | contradiction | ((try simp only [h, avT]); (first | (guard_hyp h : true = true; clear h) | (guard_hyp h : false = false; clear h) | (revert h; intro _)))) | ((with_reducible refine two_intro ?_ ?_) <;> intro h <;> first | contradiction | ((first | (guard_hyp h : true = true; clear h) | (guard_hyp h : false = false; clear h) | (revert h; intro _)))) | ((with_reducible refine And.intro ?_ ?_); (focus (first | omega | rfl | decide | grind))) | (with_reducible refine aw_block ?_) | (with_reducible refine aw_scope ?_) | ((first | ((with_reducible refine aw_regionA T_ok ?_ ?_); kernel_rfl) | ((with_reducible refine aw_drawnA T_ok ?_ ?_ ?_ ?_); kernel_rfl; kernel_rfl; (focus (decide +kernel))) | ((with_reducible refine aw_drawnF T_ok ?_ ?_ ?_ ?_); kernel_rfl; kernel_rfl; (focus (decide +kernel))) | (with_reducible refine aw_label ?_) | ((with_reducible refine aw_rfM ?_ ?_); kernel_rfl) | (with_reducible refine aw_skip ?_) | (with_reducible refine aw_exit ?_) | ((with_reducible refine aw_condM ?_ ?_); kernel_rfl) | (with_reducible refine aw_ret ?_)); simp only [↓avP, avQ, avR, forall_const, implies_true, reduceIte, Nat.reduceEqDiff, Nat.reduceAdd, Nat.reduceSub, Int.reduceToNat, Nat.reduceLeDiff, Nat.reduceLT, reduceCtorEq, Int.reduceEq, avS, intD_B, u64D_B, lotD_B, flowD_B, snocI, snocL, repU, rowU_get, rowU_set, ty_3, ty_102, ty_96, ty_26, ty_4, ty_24, ty_50, ty_22, ty_25, hd3]; try simp (disch := omega) only [av_w, av_t1, av_tp, Int.toNat_natCast]))
        refine ⟨i + 1, by omega, by dsimp only; omega, wk_of [(0, some 0), (1, some 1), (2, some 2), (3, some 3), (5, some 5)] rfl rfl ?_ ?_⟩
        · simp only [wkA, reduceIte, Nat.reduceEqDiff]
          (repeat' (first | exact trivial | rfl | exact rfl | exact subVs_d _ _ | exact subVs_dm _ _ | exact subD_refl _ | refine And.intro ?_ ?_))
        · simp only [wkA, reduceIte, Nat.reduceEqDiff]
          rw [e (i + 1)]
          (repeat' (first | ((exact subVs_rowD _ _)) | exact trivial | rfl | exact rfl | exact subVs_d _ _ | exact subVs_dm _ _ | exact subD_refl _ | refine And.intro ?_ ?_))
      | true =>
        have e : ∀ i, lotW b x i ws = inW b x i ws := fun i => by unfold lotW; rw [hsm]; rfl
        have hvo := inW_ok (bef := b) (x := x) hwo i
        have hvl := inW_len b x ws i
        have hst : inW b x (i + 1) ws = stW b x i (inW b x i ws) := rfl
        rw [e i]
        obtain ⟨vs, hvs⟩ : ∃ vs, vs = inW b x i ws := ⟨_, rfl⟩
        rw [← hvs] at hvo hvl hst ⊢
        unfold stW at hst
        cases hkn : x.known with
        | false =>
          rw [if_pos hkn] at hst
          have h1 : ((b : Int) + (i : Int)).tdiv 64 = (((b + i) / 64 : Nat) : Int) := by have := quo64 (b + i); rwa [Int.natCast_add] at this
          have h2 : ((b : Int) + (i : Int)).tmod 64 = (((b + i) % 64 : Nat) : Int) := by have := rem64 (b + i); rwa [Int.natCast_add] at this
          have ha := add_wordN (w := vs.getD ((b + i) / 64) 0) (r := (b + i) % 64) (hvo.at _) (Nat.mod_lt _ (by omega))
          repeat' (first | (with_reducible refine aw_seq ?_) | ((with_reducible refine twoG_intro ?_ ?_) <;> intro h <;> first | contradiction | ((try simp only [h, avT]); (first | (guard_hyp h : true = true; clear h) | (guard_hyp h : false = false; clear h) | (revert h; intro _)))) | ((with_reducible refine two_intro ?_ ?_) <;> intro h <;> first | contradiction | ((first | (guard_hyp h : true = true; clear h) | (guard_hyp h : false = false; clear h) | (revert h; intro _)))) | ((with_reducible refine And.intro ?_ ?_); (focus (first | omega | rfl | decide | grind))) | (with_reducible refine aw_block ?_) | (with_reducible refine aw_scope ?_) | ((first | ((with_reducible refine aw_regionA T_ok ?_ ?_); kernel_rfl) | ((with_reducible refine aw_drawnA T_ok ?_ ?_ ?_ ?_); kernel_rfl; kernel_rfl; (focus (decide +kernel))) | ((with_reducible refine aw_drawnF T_ok ?_ ?_ ?_ ?_); kernel_rfl; kernel_rfl; (focus (decide +kernel))) | ((with_reducible apply callI_in T_ok Try.func87); (focus (dsimp only [Try.f87])); (focus rfl); (focus rfl); kernel_rfl; (focus exact of_decide_eq_true (by kernel_rfl)); (focus (first | exact hdB | kernel_rfl)); kernel_rfl; intro _) | (with_reducible refine aw_label ?_) | ((with_reducible refine aw_rfM ?_ ?_); kernel_rfl) | (with_reducible refine aw_skip ?_) | (with_reducible refine aw_exit ?_) | ((with_reducible refine aw_condM ?_ ?_); kernel_rfl) | (with_reducible refine aw_ret ?_)); simp only [↓avP, avQ, avR, forall_const, implies_true, reduceIte, Nat.reduceEqDiff, Nat.reduceAdd, Nat.reduceSub, Int.reduceToNat, Nat.reduceLeDiff, Nat.reduceLT, reduceCtorEq, Int.reduceEq, avS, intD_B, u64D_B, lotD_B, flowD_B, snocI, snocL, repU, rowU_get, rowU_set, ty_3, ty_102, ty_96, ty_26, ty_4, ty_24, ty_50, ty_22, ty_25, hd3, hkn, h1, h2, ha]; try simp (disch := omega) only [av_w, av_t1, av_tp, Int.toNat_natCast]))
          refine ⟨i + 1, by omega, by dsimp only; omega, wk_of [(0, some 0), (1, some 1), (2, some 2), (3, some 3), (5, some 5)] rfl rfl ?_ ?_⟩
          · simp only [wkA, reduceIte, Nat.reduceEqDiff]
            (repeat' (first | exact trivial | rfl | exact rfl | exact subVs_d _ _ | exact subVs_dm _ _ | exact subD_refl _ | refine And.intro ?_ ?_))
          · simp only [wkA, reduceIte, Nat.reduceEqDiff]
            rw [e (i + 1), hst]
            (repeat' (first | ((exact subVs_rowD _ _)) | exact trivial | rfl | exact rfl | exact subVs_d _ _ | exact subVs_dm _ _ | exact subD_refl _ | refine And.intro ?_ ?_))
        | true =>
          rw [if_neg (by rw [hkn]; simp)] at hst
          have hsi := hin _ (getD_mem hil)
          have hpl := hg.pl hkn
          have hpn := hpl.1
          have hpp := hpl.2.2 _ (getD_mem (show i < x.perm.length by omega))
          obtain ⟨p, hp⟩ : ∃ p : Nat, x.perm.getD i 0 = p := ⟨(x.perm.getD i 0).toNat, by omega⟩
          have hhas := whas_spec vs (x.inn.getD i 0).toNat hvo (by omega) (by omega)
          rw [Int.toNat_of_nonneg hsi.1] at hhas
          rw [hp, Int.toNat_natCast] at hst
          rw [hp] at hpp
          cases hq : setOf vs (x.inn.getD i 0).toNat with
          | false =>
            rw [hq] at hhas
            rw [if_neg (by rw [hq]; simp)] at hst
            repeat' (first | (with_reducible refine aw_seq ?_) | ((with_reducible refine twoG_intro ?_ ?_) <;> intro h <;> first | contradiction | ((try simp only [h, avT]); (first | (guard_hyp h : true = true; clear h) | (guard_hyp h : false = false; clear h) | (revert h; intro _)))) | ((with_reducible refine two_intro ?_ ?_) <;> intro h <;> first | contradiction | ((first | (guard_hyp h : true = true; clear h) | (guard_hyp h : false = false; clear h) | (revert h; intro _)))) | ((with_reducible refine And.intro ?_ ?_); (focus (first | omega | rfl | decide | grind))) | (with_reducible refine aw_block ?_) | (with_reducible refine aw_scope ?_) | ((first | ((with_reducible refine aw_regionA T_ok ?_ ?_); kernel_rfl) | ((with_reducible refine aw_drawnA T_ok ?_ ?_ ?_ ?_); kernel_rfl; kernel_rfl; (focus (decide +kernel))) | ((with_reducible refine aw_drawnF T_ok ?_ ?_ ?_ ?_); kernel_rfl; kernel_rfl; (focus (decide +kernel))) | ((with_reducible refine callK_fz (hhas) rfl ?_ ?_ ?_); (focus (repeat' (first | (exact FzA.nil) | (exact FzL.nil) | (exact FzLL.nil) | (exact FzLL_dV _) | (exact Fz.d rfl) | (refine FzA.one ?_ ?_) | (refine FzA.agg ?_ ?_) | (refine FzL.cons ?_ ?_) | (refine FzLL.cons ?_ ?_) | (refine Fz.pt rfl ?_) | (refine Fz.mp rfl ?_ ?_ ?_) | (refine Fz.row rfl ?_) | (refine Fz.ag ?_))); done); kernel_rfl) | ((with_reducible refine callI_fz (hhas) rfl ?_ ?_ ?_ ?_); (focus (repeat' (first | (exact FzA.nil) | (exact FzL.nil) | (exact FzLL.nil) | (exact FzLL_dV _) | (exact Fz.d rfl) | (refine FzA.one ?_ ?_) | (refine FzA.agg ?_ ?_) | (refine FzL.cons ?_ ?_) | (refine FzLL.cons ?_ ?_) | (refine Fz.pt rfl ?_) | (refine Fz.mp rfl ?_ ?_ ?_) | (refine Fz.row rfl ?_) | (refine Fz.ag ?_))); done); kernel_rfl; kernel_rfl) | (with_reducible refine aw_label ?_) | ((with_reducible refine aw_rfM ?_ ?_); kernel_rfl) | (with_reducible refine aw_skip ?_) | (with_reducible refine aw_exit ?_) | ((with_reducible refine aw_condM ?_ ?_); kernel_rfl) | (with_reducible refine aw_ret ?_)); simp only [↓avP, avQ, avR, forall_const, implies_true, reduceIte, Nat.reduceEqDiff, Nat.reduceAdd, Nat.reduceSub, Int.reduceToNat, Nat.reduceLeDiff, Nat.reduceLT, reduceCtorEq, Int.reduceEq, avS, intD_B, u64D_B, lotD_B, flowD_B, snocI, snocL, repU, rowU_get, rowU_set, ty_3, ty_102, ty_96, ty_26, ty_4, ty_24, ty_50, ty_22, ty_25, hd3, hkn]; try simp (disch := omega) only [av_w, av_t1, av_tp, Int.toNat_natCast]))
            refine ⟨i + 1, by omega, by dsimp only; omega, wk_of [(0, some 0), (1, some 1), (2, some 2), (3, some 3), (5, some 5)] rfl rfl ?_ ?_⟩
            · simp only [wkA, reduceIte, Nat.reduceEqDiff]
              (repeat' (first | exact trivial | rfl | exact rfl | exact subVs_d _ _ | exact subVs_dm _ _ | exact subD_refl _ | refine And.intro ?_ ?_))
            · simp only [wkA, reduceIte, Nat.reduceEqDiff]
              rw [e (i + 1), hst]
              (repeat' (first | ((exact subVs_rowD _ _)) | exact trivial | rfl | exact rfl | exact subVs_d _ _ | exact subVs_dm _ _ | exact subD_refl _ | refine And.intro ?_ ?_))
          | true =>
            rw [hq] at hhas
            rw [if_pos hq] at hst
            have h1 : ((b : Int) + (p : Int)).tdiv 64 = (((b + p) / 64 : Nat) : Int) := by have := quo64 (b + p); rwa [Int.natCast_add] at this
            have h2 : ((b : Int) + (p : Int)).tmod 64 = (((b + p) % 64 : Nat) : Int) := by have := rem64 (b + p); rwa [Int.natCast_add] at this
            have ha := add_wordN (w := vs.getD ((b + p) / 64) 0) (r := (b + p) % 64) (hvo.at _) (Nat.mod_lt _ (by omega))
            repeat' (first | (with_reducible refine aw_seq ?_) | ((with_reducible refine twoG_intro ?_ ?_) <;> intro h <;> first | contradiction | ((try simp only [h, avT]); (first | (guard_hyp h : true = true; clear h) | (guard_hyp h : false = false; clear h) | (revert h; intro _)))) | ((with_reducible refine two_intro ?_ ?_) <;> intro h <;> first | contradiction | ((first | (guard_hyp h : true = true; clear h) | (guard_hyp h : false = false; clear h) | (revert h; intro _)))) | ((with_reducible refine And.intro ?_ ?_); (focus (first | omega | rfl | decide | grind))) | (with_reducible refine aw_block ?_) | (with_reducible refine aw_scope ?_) | ((first | ((with_reducible refine aw_regionA T_ok ?_ ?_); kernel_rfl) | ((with_reducible refine aw_drawnX [0,1,2,3,4,5,6,7] [8] T_ok ?_ ?_ ?_ ?_); kernel_rfl; kernel_rfl; (focus (decide +kernel))) | ((with_reducible refine aw_drawnA T_ok ?_ ?_ ?_ ?_); kernel_rfl; kernel_rfl; (focus (decide +kernel))) | ((with_reducible refine aw_drawnF T_ok ?_ ?_ ?_ ?_); kernel_rfl; kernel_rfl; (focus (decide +kernel))) | ((with_reducible refine callK_fz (hhas) rfl ?_ ?_ ?_); (focus (repeat' (first | (exact FzA.nil) | (exact FzL.nil) | (exact FzLL.nil) | (exact FzLL_dV _) | (exact Fz.d rfl) | (refine FzA.one ?_ ?_) | (refine FzA.agg ?_ ?_) | (refine FzL.cons ?_ ?_) | (refine FzLL.cons ?_ ?_) | (refine Fz.pt rfl ?_) | (refine Fz.mp rfl ?_ ?_ ?_) | (refine Fz.row rfl ?_) | (refine Fz.ag ?_))); done); kernel_rfl) | ((with_reducible refine callI_fz (hhas) rfl ?_ ?_ ?_ ?_); (focus (repeat' (first | (exact FzA.nil) | (exact FzL.nil) | (exact FzLL.nil) | (exact FzLL_dV _) | (exact Fz.d rfl) | (refine FzA.one ?_ ?_) | (refine FzA.agg ?_ ?_) | (refine FzL.cons ?_ ?_) | (refine FzLL.cons ?_ ?_) | (refine Fz.pt rfl ?_) | (refine Fz.mp rfl ?_ ?_ ?_) | (refine Fz.row rfl ?_) | (refine Fz.ag ?_))); done); kernel_rfl; kernel_rfl) | ((with_reducible apply callI_in T_ok Try.func87); (focus (dsimp only [Try.f87])); (focus rfl); (focus rfl); kernel_rfl; (focus exact of_decide_eq_true (by kernel_rfl)); (focus (first | exact hdB | kernel_rfl)); kernel_rfl; intro _) | (with_reducible refine aw_label ?_) | ((with_reducible refine aw_rfM ?_ ?_); kernel_rfl) | (with_reducible refine aw_skip ?_) | (with_reducible refine aw_exit ?_) | ((with_reducible refine aw_condM ?_ ?_); kernel_rfl) | (with_reducible refine aw_ret ?_)); simp only [↓avP, avQ, avR, forall_const, implies_true, reduceIte, Nat.reduceEqDiff, Nat.reduceAdd, Nat.reduceSub, Int.reduceToNat, Nat.reduceLeDiff, Nat.reduceLT, reduceCtorEq, Int.reduceEq, avS, intD_B, u64D_B, lotD_B, flowD_B, snocI, snocL, repU, rowU_get, rowU_set, ty_3, ty_102, ty_96, ty_26, ty_4, ty_24, ty_50, ty_22, ty_25, hd3, hkn, hp, h1, h2, ha]; try simp (disch := omega) only [av_w, av_t1, av_tp, Int.toNat_natCast]))
            refine ⟨i + 1, by omega, by dsimp only; omega, wk_of [(0, some 0), (1, some 1), (2, some 2), (3, some 3), (5, some 5)] rfl rfl ?_ ?_⟩
            · simp only [wkA, reduceIte, Nat.reduceEqDiff]
              (repeat' (first | exact trivial | rfl | exact rfl | exact subVs_d _ _ | exact subVs_dm _ _ | exact subD_refl _ | refine And.intro ?_ ?_))
            · simp only [wkA, reduceIte, Nat.reduceEqDiff]
              rw [e (i + 1), hst]
              (repeat' (first | ((exact subVs_rowD _ _)) | exact trivial | rfl | exact rfl | exact subVs_d _ _ | exact subVs_dm _ _ | exact subD_refl _ | refine And.intro ?_ ?_))
    · obtain rfl : i = x.inn.length := by omega
      have hd3 := ged (Nat.le_refl x.inn.length)
      rw [← hsu]
      repeat' (first | (with_reducible refine aw_seq ?_) | ((with_reducible refine twoG_intro ?_ ?_) <;> intro h <;> first | contradiction | ((try simp only [h, avT]); (first | (guard_hyp h : true = true; clear h) | (guard_hyp h : false = false; clear h) | (revert h; intro _)))) | ((with_reducible refine two_intro ?_ ?_) <;> intro h <;> first | contradiction | ((first | (guard_hyp h : true = true; clear h) | (guard_hyp h : false = false; clear h) | (revert h; intro _)))) | ((with_reducible refine And.intro ?_ ?_); (focus (first | omega | rfl | decide | grind))) | (with_reducible refine aw_block ?_) | (with_reducible refine aw_scope ?_) | ((first | ((with_reducible refine aw_regionA T_ok ?_ ?_); kernel_rfl) | ((with_reducible refine aw_drawnA T_ok ?_ ?_ ?_ ?_); kernel_rfl; kernel_rfl; (focus (decide +kernel))) | ((with_reducible refine aw_drawnF T_ok ?_ ?_ ?_ ?_); kernel_rfl; kernel_rfl; (focus (decide +kernel))) | (with_reducible refine aw_label ?_) | ((with_reducible refine aw_rfM ?_ ?_); kernel_rfl) | (with_reducible refine aw_skip ?_) | (with_reducible refine aw_exit ?_) | ((with_reducible refine aw_condM ?_ ?_); kernel_rfl) | (with_reducible refine aw_ret ?_)); simp only [↓avP, avQ, avR, forall_const, implies_true, reduceIte, Nat.reduceEqDiff, Nat.reduceAdd, Nat.reduceSub, Int.reduceToNat, Nat.reduceLeDiff, Nat.reduceLT, reduceCtorEq, Int.reduceEq, avS, intD_B, u64D_B, lotD_B, flowD_B, snocI, snocL, repU, rowU_get, rowU_set, ty_3, ty_102, ty_96, ty_26, ty_4, ty_24, ty_50, ty_22, ty_25, hd3]; try simp (disch := omega) only [av_w, av_t1, av_tp, Int.toNat_natCast]))
      refine ⟨k + 1, by omega, by dsimp only; omega, wk_of [(0, some 0), (1, some 1), (2, some 2), (3, some 3)] rfl rfl ?_ ?_⟩
      · simp only [wkA, reduceIte, Nat.reduceEqDiff]
        (repeat' (first | exact trivial | rfl | exact rfl | exact subVs_d _ _ | exact subVs_dm _ _ | exact subD_refl _ | refine And.intro ?_ ?_))
      · simp only [wkA, reduceIte, Nat.reduceEqDiff]
        rw [hb1]
        (repeat' (first | ((exact subVs_rowD _ _)) | exact trivial | rfl | exact rfl | exact subVs_d _ _ | exact subVs_dm _ _ | exact subD_refl _ | refine And.intro ?_ ?_))
  obtain rfl : k = f.lots.length := by omega
  have hd2 := ged (Nat.le_refl f.lots.length)
  repeat (first | (with_reducible refine aw_seq ?_) | ((with_reducible refine And.intro ?_ ?_); (focus (first | omega | rfl | decide | grind))) | (with_reducible refine aw_block ?_) | (with_reducible refine aw_scope ?_) | ((first | ((with_reducible refine aw_regionA T_ok ?_ ?_); kernel_rfl) | ((with_reducible refine aw_drawnA T_ok ?_ ?_ ?_ ?_); kernel_rfl; kernel_rfl; (focus (decide +kernel))) | ((with_reducible refine aw_drawnF T_ok ?_ ?_ ?_ ?_); kernel_rfl; kernel_rfl; (focus (decide +kernel))) | (with_reducible refine aw_label ?_) | ((with_reducible refine aw_rfM ?_ ?_); kernel_rfl) | (with_reducible refine aw_skip ?_) | (with_reducible refine aw_exit ?_)); simp only [↓avP, avQ, avR, forall_const, implies_true, reduceIte, Nat.reduceEqDiff, Nat.reduceAdd, Nat.reduceSub, Int.reduceToNat, Nat.reduceLeDiff, Nat.reduceLT, reduceCtorEq, Int.reduceEq, avS, intD_B, u64D_B, lotD_B, flowD_B, snocI, snocL, repU, rowU_get, rowU_set, ty_3, ty_102, ty_96, ty_26, ty_4, ty_24, ty_50, ty_22, ty_25]; try simp (disch := omega) only [av_w, av_t1, av_tp, Int.toNat_natCast]))
  refine aw_cond rfl rfl (fun h => ?_) (fun h => ?_)
  · rw [hd2] at h; cases h
  repeat (first | (with_reducible refine aw_seq ?_) | ((with_reducible refine And.intro ?_ ?_); (focus (first | omega | rfl | decide | grind))) | (with_reducible refine aw_block ?_) | (with_reducible refine aw_scope ?_) | ((first | ((with_reducible refine aw_regionA T_ok ?_ ?_); kernel_rfl) | ((with_reducible refine aw_drawnA T_ok ?_ ?_ ?_ ?_); kernel_rfl; kernel_rfl; (focus (decide +kernel))) | ((with_reducible refine aw_drawnF T_ok ?_ ?_ ?_ ?_); kernel_rfl; kernel_rfl; (focus (decide +kernel))) | (with_reducible refine aw_label ?_) | ((with_reducible refine aw_rfM ?_ ?_); kernel_rfl) | (with_reducible refine aw_skip ?_) | (with_reducible refine aw_exit ?_)); simp only [↓avP, avQ, avR, forall_const, implies_true, reduceIte, Nat.reduceEqDiff, Nat.reduceAdd, Nat.reduceSub, Int.reduceToNat, Nat.reduceLeDiff, Nat.reduceLT, reduceCtorEq, Int.reduceEq, avS, intD_B, u64D_B, lotD_B, flowD_B, snocI, snocL, repU, rowU_get, rowU_set, ty_3, ty_102, ty_96, ty_26, ty_4, ty_24, ty_50, ty_22, ty_25]; try simp (disch := omega) only [av_w, av_t1, av_tp, Int.toNat_natCast]))
  refine aw_frz 1 (u64D 0) ((spW f s f.lots.length).map u64D) rfl rfl ?_
  dsimp only [frzT]
  repeat' (first | (with_reducible refine aw_seq ?_) | ((with_reducible refine twoG_intro ?_ ?_) <;> intro h <;> first | contradiction | ((try simp only [h, avT]); (first | (guard_hyp h : true = true; clear h) | (guard_hyp h : false = false; clear h) | (revert h; intro _)))) | ((with_reducible refine two_intro ?_ ?_) <;> intro h <;> first | contradiction | ((first | (guard_hyp h : true = true; clear h) | (guard_hyp h : false = false; clear h) | (revert h; intro _)))) | ((with_reducible refine And.intro ?_ ?_); (focus (first | omega | rfl | decide | grind))) | (with_reducible refine aw_block ?_) | (with_reducible refine aw_scope ?_) | ((first | ((with_reducible refine aw_regionA T_ok ?_ ?_); kernel_rfl) | ((with_reducible refine aw_drawnA T_ok ?_ ?_ ?_ ?_); kernel_rfl; kernel_rfl; (focus (decide +kernel))) | ((with_reducible refine aw_drawnF T_ok ?_ ?_ ?_ ?_); kernel_rfl; kernel_rfl; (focus (decide +kernel))) | (with_reducible refine aw_label ?_) | ((with_reducible refine aw_rfM ?_ ?_); kernel_rfl) | (with_reducible refine aw_skip ?_) | (with_reducible refine aw_exit ?_) | ((with_reducible refine aw_condM ?_ ?_); kernel_rfl) | (with_reducible refine aw_ret ?_)); simp only [↓avP, avQ, avR, forall_const, implies_true, reduceIte, Nat.reduceEqDiff, Nat.reduceAdd, Nat.reduceSub, Int.reduceToNat, Nat.reduceLeDiff, Nat.reduceLT, reduceCtorEq, Int.reduceEq, avS, intD_B, u64D_B, lotD_B, flowD_B, snocI, snocL, repU, rowU_get, rowU_set, ty_3, ty_102, ty_96, ty_26, ty_4, ty_24, ty_50, ty_22, ty_25]; try simp (disch := omega) only [av_w, av_t1, av_tp, Int.toNat_natCast]))
  exact Sub.refl _
end Go.Proofs.Ytlnkmaejiceloaa

