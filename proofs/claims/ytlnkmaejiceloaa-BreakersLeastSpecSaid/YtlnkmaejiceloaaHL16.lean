import Derived.Test.YtlnkmaejiceloaaHL14
import Derived.Test.YtlnkmaejiceloaaHL7
import Derived.Test.YtlnkmaejiceloaaHL12
namespace Go.Proofs.Ytlnkmaejiceloaa
set_option linter.unusedSimpArgs false
set_option linter.unusedVariables false
open Go.RowKit
def rowI (c : List Int) : Blk := .row 3 1 (dV (zD (.int .i64 0))) ((c.map intD).map dV)
def isRow : Blk → Bool
  | .row _ _ _ _ => true
  | _ => false
structure Post (st : List (Nat × Blk)) (q : Nat) (st' : List (Nat × Blk)) (q' : Nat) : Prop where
  le : q ≤ q'
  row : ∀ n c, lkB st n = some (rowI c) → lkB st' n = some (rowI c)
  no : ∀ k, k < q → lkB st k = none → lkB st' k = none
theorem Post.refl (st : List (Nat × Blk)) (q : Nat) : Post st q st q := ⟨Nat.le_refl _, fun _ _ h => h, fun _ _ h => h⟩
theorem Post.trans {a b c : List (Nat × Blk)} {p q r : Nat} (h : Post a p b q) (k : Post b q c r) : Post a p c r :=
  ⟨Nat.le_trans h.le k.le, fun n c hn => k.row n c (h.row n c hn), fun n hn hk => k.no n (Nat.lt_of_lt_of_le hn h.le) (h.no n hn hk)⟩
theorem Post.ext {a b b' : List (Nat × Blk)} {p q : Nat} (h : Post a p b q) (hb : ∀ k, k < p → lkB b' k = lkB b k) (hf : ∀ n x, lkB a n = some x → n < p) : Post a p b' q :=
  ⟨h.le, fun n c hn => by rw [hb n (hf n _ hn)]; exact h.row n c hn, fun k hk hn => by rw [hb k hk]; exact h.no k hk hn⟩
structure Chs (ι : Type) where
  Inv : ι → List (Nat × Blk) → Nat → Prop
  Cx : Base → List (Nat × V) → Prop
  step : ι → List Int → ι
  ym : Nat
  yb : Nat
  ob : Nat
  cv : Nat
  off : Nat
def Chs.caps {ι : Type} (X : Chs ι) : List V := [.ptr X.yb 0, .ptr X.ob 0, .ptr X.cv 0]
structure Chs.Ok {ι : Type} (X : Chs ι) (cap : ι → Nat → Prop) : Prop where
  mono : ∀ i st st' q q', X.Inv i st q → (∀ k x, isRow x = false → lkB st k = some x → lkB st' k = some x) → q ≤ q' → X.Inv i st' q'
  yb : ∀ i st q, X.Inv i st q → ∃ t, lkB st X.yb = some (.cells t [.yl X.ym])
  ob : ∀ i st q, X.Inv i st q → ∃ t, lkB st X.ob = some (.cells t [vI X.off])
  cv : ∀ i st q, X.Inv i st q → ∃ t, lkB st X.cv = some (.cells t [.fn 53 X.caps])
  cx : ∀ B tm a tm', X.Cx B tm → tailT 43 tm tm' → X.Cx (B.inn 43 (vOf B a) (gdOf B a)) tm'
  off : X.off ≤ 12
  capS : ∀ i n c, isCo X.off c → cap i (n + 1) → cap (X.step i c) n
  yield : ∀ B tm st q i n m c (K : St → Prop), X.Cx B tm → B.N = 43 → lkT tm 15 = .yl X.ym → isCo X.off c → cap i (n + 1) → X.Inv i st q → lkB st m = some (rowI c) → m < q →
    (∀ st' q', X.Inv (X.step i c) st' q' → q ≤ q' → (∀ n c, n ≠ m → lkB st n = some (rowI c) → lkB st' n = some (rowI c)) → (∀ k, k < q → lkB st k = none → lkB st' k = none) → K ⟨put (some 18) (vB true) tm, st', q'⟩) → yieldI Try.prog B X.ym [.mo m] (some 18) ⟨tm, st, q⟩ K ⟨⟩
def Chs.fold {ι : Type} (X : Chs ι) (i : ι) (xs : List (List Int)) : ι := xs.foldl X.step i
theorem Chs.fold_app {ι : Type} (X : Chs ι) (i : ι) (xs ys : List (List Int)) : X.fold i (xs ++ ys) = X.fold (X.fold i xs) ys := by simp [Chs.fold]
theorem Chs.Ok.caps {ι : Type} {X : Chs ι} {cap : ι → Nat → Prop} (h : X.Ok cap) : ∀ (xs : List (List Int)) (i : ι) (n : Nat), (∀ c ∈ xs, isCo X.off c) → cap i (n + xs.length) → cap (X.fold i xs) n
  | [], i, n, _, hc => hc
  | c :: xs, i, n, hx, hc => by
    refine h.caps xs _ n (fun y hy => hx y (by simp [hy])) (h.capS i _ c (hx c (by simp)) ?_)
    rw [List.length_cons, ← Nat.add_assoc] at hc
    exact hc
set_option maxRecDepth 100000
set_option maxHeartbeats 4000000
theorem plI (c : List Int) : (c.map intD).flatten.all plD = true := by
  induction c with
  | nil => rfl
  | cons a c ih => rw [List.map_cons, List.flatten_cons, List.all_append, ih]; rfl
theorem row_getb (L : List Int) (j : Nat) : ((L.map intD).map dV).getD j (dV (zD (.int .i64 0))) = dV (intD (L.getD j 0)) := by
  simp only [List.getD_eq_getElem?_getD, List.getElem?_map]
  cases L[j]? <;> rfl
theorem choose_start {n q1 : Nat} {c : List Int} {s1 : List (Nat × Blk)} {x4 x3 : Blk} {b : Bool} (hn1 : lkB s1 n = some (rowI c)) (hfr1 : ∀ m, q1 ≤ m → lkB s1 m = none) (m : Nat) (x : Blk) (hx : isRow x = false) (hm : lkB s1 m = some x) : lkB ((q1 + 4, x4) :: (q1 + 3, x3) :: apSt n s1 b) m = some x := by
  have hlt : m < q1 := Nat.lt_of_not_le fun h => by rw [hfr1 m h] at hm; cases hm
  rw [lkB, if_neg (by omega), lkB, if_neg (by omega)]
  cases b with
  | true =>
    rw [apSt, lkB_delB, if_neg]
    · exact hm
    · intro e
      rw [e, hn1] at hm
      cases hm
      simp [rowI, isRow] at hx
  | false => exact hm
def finS (n q1 : Nat) (c : List Int) (st' : List (Nat × Blk)) : Bool → List (Nat × Blk)
  | true => (n, rowI c) :: delB (q1 + 4) st'
  | false => delB (q1 + 4) st'
theorem choose_fin {ι : Type} {X : Chs ι} {cap : ι → Nat → Prop} (hX : X.Ok cap) {n q1 q' : Nat} {c c4 : List Int} {s1 st' : List (Nat × Blk)} {x3 : Blk} {b : Bool} {i' : ι} (hn1 : lkB s1 n = some (rowI c)) (hfr1 : ∀ m, q1 ≤ m → lkB s1 m = none)
    (hP : Post ((q1 + 4, rowI c4) :: (q1 + 3, x3) :: apSt n s1 b) (q1 + 8) st' q') (hI' : X.Inv i' st' q') : X.Inv i' (finS n q1 c st' b) q' ∧ Post s1 q1 (finS n q1 c st' b) q' ∧ lkB st' (q1 + 4) = some (rowI c4) := by
  have hlt : ∀ m x, lkB s1 m = some x → m < q1 := fun m x hm => Nat.lt_of_not_le fun h => by rw [hfr1 m h] at hm; cases hm
  have hnq := hlt n _ hn1
  have h4 : lkB st' (q1 + 4) = some (rowI c4) := hP.row _ _ (by rw [lkB, if_pos rfl])
  have hst : ∀ m, m < q1 → lkB ((q1 + 4, rowI c4) :: (q1 + 3, x3) :: apSt n s1 b) m = if b = true ∧ m = n then none else lkB s1 m := fun m hm => by
    rw [lkB, if_neg (by omega), lkB, if_neg (by omega)]
    cases b with
    | true => rw [apSt, lkB_delB]; by_cases e : m = n <;> simp [e]
    | false => simp [apSt]
  have hfin : ∀ m, lkB (finS n q1 c st' b) m = if b = true ∧ m = n then some (rowI c) else if m = q1 + 4 then none else lkB st' m := fun m => by
    cases b with
    | true => rw [finS, lkB, lkB_delB]; by_cases e : m = n <;> simp [e]
    | false => rw [finS, lkB_delB]; simp
  have hgone : b = true → lkB st' n = none := fun hb => hP.no n (by omega) (by rw [hst n hnq, if_pos ⟨hb, rfl⟩])
  refine ⟨hX.mono i' st' _ q' _ hI' (fun m x hx hm => ?_) (Nat.le_refl _), ⟨by have := hP.le; omega, fun m c' hm => ?_, fun m hmq hm => ?_⟩, h4⟩
  · rw [hfin]
    by_cases h1 : b = true ∧ m = n
    · rw [h1.2, hgone h1.1] at hm; cases hm
    · rw [if_neg h1]
      by_cases h2 : m = q1 + 4
      · rw [h2, h4] at hm; cases hm; simp [rowI, isRow] at hx
      · rw [if_neg h2]; exact hm
  · have hmq := hlt m _ hm
    rw [hfin]
    by_cases h1 : b = true ∧ m = n
    · rw [if_pos h1, ← hm, h1.2, hn1]
    · rw [if_neg h1, if_neg (by omega)]
      exact hP.row m c' (by rw [hst m hmq, if_neg h1]; exact hm)
  · rw [hfin]
    have h1 : ¬ (b = true ∧ m = n) := fun h => by rw [h.2, hn1] at hm; cases hm
    rw [if_neg h1, if_neg (by omega)]
    exact hP.no m (by omega) (by rw [hst m hmq, if_neg h1]; exact hm)
theorem choose_call {ι : Type} {X : Chs ι} {cap : ι → Nat → Prop} (hX : X.Ok cap) : ∀ (k : Nat) (c : List Int), isCo X.off c → ∀ (B : Base) (tm : List (Nat × V)) (st : List (Nat × Blk)) (q n nc : Nat) (i : ι) (d : Option Tmp) (K : St → Prop), (match d with | some t => decide (t < B.N) | none => true) = true → X.Cx B tm → cap i (nc + (chL X.off k c).length) → X.Inv i st q → lkB st n = some (rowI c) →
    (∀ st' q', X.Inv (X.fold i (chL X.off k c)) st' q' → Post st q st' q' → K ⟨put d (vB true) tm, st', q'⟩) → callI Try.prog B 53 (.mo n :: vI ((c.length + k : Nat) : Int) :: X.caps) d ⟨tm, st, q⟩ K ⟨⟩
  | 0, c, hco, B, tm, st, q, n, nc, i, d, K, hdB, hC, hcap, hI, hn, hK => by
    refine callI_fresh (by kernel_rfl) fun hfr => ?_
    obtain ⟨ty1, h1⟩ := hX.yb i st q hI
    have hcl := hco.len
    have hoff := hX.off
    have hlen : (((c.map intD).map dV).length : Int) = (c.length : Int) := by simp
    have hnq : n < q := Nat.lt_of_not_le fun h => by have := hfr n h; rw [hn] at this; cases this
    have hn0 : lkB st n = some (.row 3 1 (dV (zD (.int .i64 0))) ((c.map intD).map dV)) := hn
    have he : ((c.length : Int) == ((c.length + 0 : Nat) : Int)) = true := by simp
    have hcl1 : (c.map intD).length ≤ 1099511627776 := by rw [List.length_map]; omega
    have hpl : (c.map intD).flatten.all plD = true := plI c
    have hfz : FzA Try.prog (lkB st) [.mo n] [.one (.sl 1 (intD 0) (c.map intD))] := FzA.one (Fz.row hn0 (FzLL_dV _)) FzA.nil
    have hCl := cloneI_spec (c.map intD) (intD 0) [.c (.int .i64 0)] hcl1
    unfold Chs.caps
    repeat' (first | (with_reducible refine aw_seq ?_) | ((with_reducible refine twoG_intro ?_ ?_) <;> intro h <;> first | contradiction | ((try simp only [h, avT]); (first | (guard_hyp h : true = true; clear h) | (guard_hyp h : false = false; clear h) | (revert h; intro _)))) | ((with_reducible refine two_intro ?_ ?_) <;> intro h <;> first | contradiction | ((first | (guard_hyp h : true = true; clear h) | (guard_hyp h : false = false; clear h) | (revert h; intro _)))) | ((with_reducible refine And.intro ?_ ?_); (focus (first | omega | rfl | decide | grind))) | (with_reducible refine aw_block ?_) | (with_reducible refine aw_scope ?_) | ((first | ((with_reducible refine aw_regionA T_ok ?_ ?_); kernel_rfl) | ((with_reducible refine aw_drawnX [0,1,2] [3,4] T_ok ?_ ?_ ?_ ?_); kernel_rfl; kernel_rfl; (focus (decide +kernel))) | ((with_reducible refine aw_drawnA T_ok ?_ ?_ ?_ ?_); kernel_rfl; kernel_rfl; (focus (decide +kernel))) | ((with_reducible refine aw_drawnF T_ok ?_ ?_ ?_ ?_); kernel_rfl; kernel_rfl; (focus (decide +kernel))) | ((with_reducible apply callI_in T_ok Try.func53); (focus (dsimp only [Try.f53])); (focus rfl); (focus rfl); kernel_rfl; (focus exact of_decide_eq_true (by kernel_rfl)); (focus (first | exact hdB | kernel_rfl)); kernel_rfl; intro _) | ((with_reducible refine callK_fzO (hCl) (hpl) ?_ ?_ ?_); (focus (exact hfz)); kernel_rfl) | (with_reducible refine aw_label ?_) | ((with_reducible refine aw_rfM ?_ ?_); kernel_rfl) | (with_reducible refine aw_skip ?_) | (with_reducible refine aw_exit ?_) | ((with_reducible refine aw_condM ?_ ?_); kernel_rfl) | (with_reducible refine aw_ret ?_)); simp only [↓avP, avQ, avR, forall_const, implies_true, reduceIte, Nat.reduceEqDiff, Nat.reduceAdd, Nat.reduceSub, Int.reduceToNat, Nat.reduceLeDiff, Nat.reduceLT, reduceCtorEq, Int.reduceEq, avS, intD_B, snocI, ty_3, ty_26, ty_4, ty_44, ty_72, nmB, unT_shT, unT_app, setT_sha, setT_sh, lkT_sha, lkT_sh, lkB_delB, hn0, h1, he, hlen]; try simp (disch := omega) only [av_w, av_t1, av_tp, Int.toNat_natCast]))
    refine hX.yield _ _ _ (q + 5) i nc (q + 2) c _ (hX.cx B tm _ _ hC ?_) rfl ?_ hco ?_ (hX.mono i st _ q _ hI ?_ ?_) ?_ ?_ fun st' q' hI' hq hrow hno => ?_
    · repeat (refine tailT_cons ?_ ?_; (focus decide))
      exact tailT_app rfl
    · simp only [lkT_c, lkT_n, lkT_sha, lkT_sh, reduceIte, Nat.reduceEqDiff, Nat.reduceLT]
    · simpa only [chL, List.length_cons, List.length_nil, Nat.zero_add] using hcap
    · intro k x _ hk
      rw [lkB]
      by_cases e : k = q + 2
      · rw [e, hfr (q + 2) (by show q ≤ q + 2; omega)] at hk; cases hk
      · rw [if_neg e]; exact hk
    · omega
    · rw [lkB, if_pos rfl]; rfl
    · omega
    · simp only [↓avP, avQ, avR, forall_const, implies_true, reduceIte, Nat.reduceEqDiff, Nat.reduceAdd, Nat.reduceSub, Int.reduceToNat, Nat.reduceLeDiff, Nat.reduceLT, reduceCtorEq, Int.reduceEq, avS, intD_B, snocI, ty_3, ty_26, ty_4, ty_44, ty_72, nmB, unT_shT, unT_app, setT_sha, setT_sh, lkT_sha, lkT_sh, lkB_delB]
      repeat' (first | (with_reducible refine aw_seq ?_) | ((with_reducible refine twoG_intro ?_ ?_) <;> intro h <;> first | contradiction | ((try simp only [h, avT]); (first | (guard_hyp h : true = true; clear h) | (guard_hyp h : false = false; clear h) | (revert h; intro _)))) | ((with_reducible refine two_intro ?_ ?_) <;> intro h <;> first | contradiction | ((first | (guard_hyp h : true = true; clear h) | (guard_hyp h : false = false; clear h) | (revert h; intro _)))) | ((with_reducible refine And.intro ?_ ?_); (focus (first | omega | rfl | decide | grind))) | (with_reducible refine aw_block ?_) | (with_reducible refine aw_scope ?_) | ((first | ((with_reducible refine aw_regionA T_ok ?_ ?_); kernel_rfl) | ((with_reducible refine aw_drawnA T_ok ?_ ?_ ?_ ?_); kernel_rfl; kernel_rfl; (focus (decide +kernel))) | ((with_reducible refine aw_drawnF T_ok ?_ ?_ ?_ ?_); kernel_rfl; kernel_rfl; (focus (decide +kernel))) | (with_reducible refine aw_label ?_) | ((with_reducible refine aw_rfM ?_ ?_); kernel_rfl) | (with_reducible refine aw_skip ?_) | (with_reducible refine aw_exit ?_) | ((with_reducible refine aw_condM ?_ ?_); kernel_rfl) | (with_reducible refine aw_ret ?_)); simp only [↓avP, avQ, avR, forall_const, implies_true, reduceIte, Nat.reduceEqDiff, Nat.reduceAdd, Nat.reduceSub, Int.reduceToNat, Nat.reduceLeDiff, Nat.reduceLT, reduceCtorEq, Int.reduceEq, avS, intD_B, snocI, ty_3, ty_26, ty_4, ty_44, ty_72, nmB, unT_shT, unT_app, setT_sha, setT_sh, lkT_sha, lkT_sh, lkB_delB]; try simp (disch := omega) only [av_w, av_t1, av_tp, Int.toNat_natCast]))
      refine hK st' q' hI' ⟨by omega, fun n' c' hn' => ?_, fun k hk hn' => ?_⟩
      · have hlt : n' < q := Nat.lt_of_not_le fun h => by have := hfr n' h; rw [hn'] at this; cases this
        exact hrow n' c' (by omega) (by rw [lkB, if_neg (by omega)]; exact hn')
      · exact hno k (by omega) (by rw [lkB, if_neg (by omega)]; exact hn')
  | k + 1, c, hco, B, tm, st, q, n, nc, i, d, K, hdB, hC, hcap, hI, hn, hK => by
    refine callI_fresh (by kernel_rfl) fun hfr => ?_
    have hcl := hco.len
    have hoff := hX.off
    have hlen : (((c.map intD).map dV).length : Int) = (c.length : Int) := by simp
    have hnq : n < q := Nat.lt_of_not_le fun h => by have := hfr n h; rw [hn] at this; cases this
    have hn0 : lkB st n = some (.row 3 1 (dV (zD (.int .i64 0))) ((c.map intD).map dV)) := hn
    have he : ((c.length : Int) == ((c.length + (k + 1) : Nat) : Int)) = false := by rw [beq_eq_false_iff_ne]; omega
    have hnext := hco.next
    have hl0 : c.length ≠ 0 → 0 ≤ c.getD (c.length - 1) 0 ∧ c.getD (c.length - 1) 0 < (X.off : Int) := fun h0 => hco.2 _ (getD_mem (show c.length - 1 < c.length by omega))
    have hN0 : c.length = 0 → nextC c = 0 := fun h => by unfold nextC; rw [if_pos h]
    have hN1 : c.length ≠ 0 → (nextC c : Int) = c.getD (c.length - 1) 0 + 1 := fun h => by
      have := hl0 h
      unfold nextC
      rw [if_neg h]
      omega
    cases hb : decide ((c.length : Int) > 0)
    · have hb0 : c.length = 0 := by have := of_decide_eq_false hb; omega
      have hN : (nextC c : Int) = 0 := by rw [hN0 hb0]; rfl
      unfold Chs.caps
      repeat' (first | (with_reducible refine aw_seq ?_) | ((with_reducible refine twoG_intro ?_ ?_) <;> intro h <;> first | contradiction | ((try simp only [h, avT]); (first | (guard_hyp h : true = true; clear h) | (guard_hyp h : false = false; clear h) | (revert h; intro _)))) | ((with_reducible refine two_intro ?_ ?_) <;> intro h <;> first | contradiction | ((first | (guard_hyp h : true = true; clear h) | (guard_hyp h : false = false; clear h) | (revert h; intro _)))) | ((with_reducible refine And.intro ?_ ?_); (focus (first | omega | rfl | decide | grind))) | (with_reducible refine aw_block ?_) | (with_reducible refine aw_scope ?_) | ((first | ((with_reducible refine aw_regionA T_ok ?_ ?_); kernel_rfl) | ((with_reducible refine aw_drawnA T_ok ?_ ?_ ?_ ?_); kernel_rfl; kernel_rfl; (focus (decide +kernel))) | ((with_reducible refine aw_drawnF T_ok ?_ ?_ ?_ ?_); kernel_rfl; kernel_rfl; (focus (decide +kernel))) | ((with_reducible apply callI_in T_ok Try.func53); (focus (dsimp only [Try.f53])); (focus rfl); (focus rfl); kernel_rfl; (focus exact of_decide_eq_true (by kernel_rfl)); (focus (first | exact hdB | kernel_rfl)); kernel_rfl; intro _) | (with_reducible refine aw_label ?_) | ((with_reducible refine aw_rfM ?_ ?_); kernel_rfl) | (with_reducible refine aw_skip ?_) | (with_reducible refine aw_exit ?_) | ((with_reducible refine aw_condM ?_ ?_); kernel_rfl) | (with_reducible refine aw_ret ?_)); simp only [↓avP, avQ, avR, forall_const, implies_true, reduceIte, Nat.reduceEqDiff, Nat.reduceAdd, Nat.reduceSub, Int.reduceToNat, Nat.reduceLeDiff, Nat.reduceLT, reduceCtorEq, Int.reduceEq, avS, intD_B, snocI, ty_3, ty_26, ty_4, ty_44, ty_72, nmB, unT_shT, unT_app, setT_sha, setT_sh, lkT_sha, lkT_sh, lkB_delB, hn0, he, hlen, hb]; try simp (disch := omega) only [av_w, av_t1, av_tp, Int.toNat_natCast]))
      refine aw_loopI (fun x : Nat × List (Nat × Blk) × Nat => ⟨(0, .mo n) :: (1, vI ((c.length + (k + 1) : Nat) : Int)) :: (2, .ptr X.yb 0) :: (3, .ptr X.ob 0) :: (4, .ptr X.cv 0) :: (10, vI x.1) :: shT 43 tm, x.2.1, x.2.2⟩)
        (fun x => nextC c ≤ x.1 ∧ x.1 ≤ X.off ∧ X.Inv (X.fold i (chU X.off k c x.1)) x.2.1 x.2.2 ∧ Post st q x.2.1 x.2.2) (fun x => X.off - x.1) (nextC c, st, q) ⟨Nat.le_refl _, hnext, by rw [chU_start]; exact hI, Post.refl _ _⟩ (wk_less ?_) ?_
      · refine LessS.mk ?_ ?_ ?_
        · dsimp only
          repeat (refine lessT_cons ?_ ?_; (focus (first | rfl | (simp only [lkT_c, lkT_n, lkT_sha, lkT_sh, lkB_c, lkB_n, lkB_setB, if_true, if_false, reduceIte, Nat.reduceEqDiff, Nat.reduceLT, nmB, hN] <;> rfl))))
          first | exact lessT_nil _ | exact lessT_refl _ | (refine lessT_tail ?_; (repeat (refine tailT_cons ?_ ?_; (focus decide))); first | exact tailT_refl _ _ | exact tailT_app rfl)
        · dsimp only
          repeat (first | exact lessB_refl _ | exact lessB_nil _ | (refine lessB_setSelf ?_; (focus assumption)) | (refine lessB_sameE ?_ ?_; (focus (first | rfl | (simp only [lkT_c, lkT_n, lkT_sha, lkT_sh, lkB_c, lkB_n, lkB_setB, if_true, if_false, reduceIte, Nat.reduceEqDiff, Nat.reduceLT, nmB, hN] <;> rfl)))) | (refine lessB_skip ?_ ?_; (focus (first | (with_reducible assumption) | (simp only [lkT_c, lkT_n, lkT_sha, lkT_sh, lkB_c, lkB_n, lkB_setB, if_true, if_false, reduceIte, Nat.reduceEqDiff, Nat.reduceLT, nmB, hN] <;> rfl)))) | (refine lessB_cons ?_ ?_; (focus (first | (with_reducible assumption) | rfl | (simp only [lkT_c, lkT_n, lkT_sha, lkT_sh, lkB_c, lkB_n, lkB_setB, if_true, if_false, reduceIte, Nat.reduceEqDiff, Nat.reduceLT, nmB, hN] <;> rfl)))))
        · dsimp only; omega
      rintro ⟨j, s1, q1⟩ ⟨p1, p2, p3, p4⟩
      dsimp only at p1 p2 p3 p4 ⊢
      refine aw_fresh fun hfr1 => ?_
      obtain ⟨ty2, h2⟩ := hX.ob _ s1 q1 p3
      obtain ⟨ty3, h3⟩ := hX.cv _ s1 q1 p3
      have hn1 : lkB s1 n = some (rowI c) := p4.row n c hn
      have hn2 : lkB s1 n = some (.row 3 1 (dV (zD (.int .i64 0))) ((c.map intD).map dV)) := hn1
      rcases Nat.lt_or_ge j X.off with hlt | hge
      · have hd := ltd hlt
        repeat' (first | (with_reducible refine aw_seq ?_) | (with_reducible refine aw_stop (id := 10) ?_) | ((with_reducible refine twoG_intro ?_ ?_) <;> intro h <;> first | contradiction | ((try simp only [h, avT]); (first | (guard_hyp h : true = true; clear h) | (guard_hyp h : false = false; clear h) | (revert h; intro _)))) | ((with_reducible refine two_intro ?_ ?_) <;> intro h <;> first | contradiction | ((first | (guard_hyp h : true = true; clear h) | (guard_hyp h : false = false; clear h) | (revert h; intro _)))) | ((with_reducible refine And.intro ?_ ?_); (focus (first | omega | rfl | decide | grind))) | (with_reducible refine aw_block ?_) | (with_reducible refine aw_scope ?_) | ((first | ((with_reducible refine aw_regionA T_ok ?_ ?_); kernel_rfl) | ((with_reducible refine aw_drawnA T_ok ?_ ?_ ?_ ?_); kernel_rfl; kernel_rfl; (focus (decide +kernel))) | ((with_reducible refine aw_drawnF T_ok ?_ ?_ ?_ ?_); kernel_rfl; kernel_rfl; (focus (decide +kernel))) | (with_reducible refine aw_label ?_) | ((with_reducible refine aw_rfM ?_ ?_); kernel_rfl) | (with_reducible refine aw_skip ?_) | (with_reducible refine aw_exit ?_) | ((with_reducible refine aw_condM ?_ ?_); kernel_rfl) | (with_reducible refine aw_ret ?_)); simp only [↓avP, avQ, avR, forall_const, implies_true, reduceIte, Nat.reduceEqDiff, Nat.reduceAdd, Nat.reduceSub, Int.reduceToNat, Nat.reduceLeDiff, Nat.reduceLT, reduceCtorEq, Int.reduceEq, avS, intD_B, snocI, ty_3, ty_26, ty_4, ty_44, ty_72, nmB, unT_shT, unT_app, setT_sha, setT_sh, lkT_sha, lkT_sh, lkB_delB, h2, hd]; try simp (disch := omega) only [av_w, av_t1, av_tp, Int.toNat_natCast]))
        refine ⟨?_⟩
        have hcn : (X.cv = n) = False := eq_false fun e => by rw [e, hn1] at h3; cases h3
        refine aw_drawnW 4 0 39 n [0, 1, 2, 3, 5] [6, 7] T_ok ?_ ?_ ?_ rfl ?_ ?_
        · kernel_rfl
        · kernel_rfl
        · decide +kernel
        · simp only [lkT_c, lkT_n, lkT_sha, lkT_sh, reduceIte, Nat.reduceEqDiff, Nat.reduceLT]
        simp only [↓avP, avQ, avR, forall_const, implies_true, reduceIte, Nat.reduceEqDiff, Nat.reduceAdd, Nat.reduceSub, Int.reduceToNat, Nat.reduceLeDiff, Nat.reduceLT, reduceCtorEq, Int.reduceEq, avS, intD_B, snocI, ty_3, ty_26, ty_4, ty_44, ty_72, nmB, unT_shT, unT_app, setT_sha, setT_sh, lkT_sha, lkT_sh, lkB_delB, h3, hcn]
        refine ⟨⟨by decide, by rfl⟩, fin2_intro ?_⟩
        simp only [↓avP, avQ, avR, forall_const, implies_true, reduceIte, Nat.reduceEqDiff, Nat.reduceAdd, Nat.reduceSub, Int.reduceToNat, Nat.reduceLeDiff, Nat.reduceLT, reduceCtorEq, Int.reduceEq, avS, intD_B, snocI, ty_3, ty_26, ty_4, ty_44, ty_72, nmB, unT_shT, unT_app, setT_sha, setT_sh, lkT_sha, lkT_sh, lkB_delB, ↓apW.eq_def, hn2]
        refine ⟨rfl, by omega, by omega, fun b => ?_⟩
        simp only [↓avP, avQ, avR, forall_const, implies_true, reduceIte, Nat.reduceEqDiff, Nat.reduceAdd, Nat.reduceSub, Int.reduceToNat, Nat.reduceLeDiff, Nat.reduceLT, reduceCtorEq, Int.reduceEq, avS, intD_B, snocI, ty_3, ty_26, ty_4, ty_44, ty_72, nmB, unT_shT, unT_app, setT_sha, setT_sh, lkT_sha, lkT_sh, lkB_delB, ↓tailW.eq_def]
        obtain ⟨r, hr⟩ := chU_all X.off k c (j := j + 1) (by omega) (by omega)
        have hsc := chU_succ X.off k c (i := j) p1
        have hco' := hco.snoc p1 hlt
        have hrow : (.row 3 1 (dV (zD (.int .i64 0))) ((c.map intD).map dV ++ [[V.d (.c (.int .i64 (j : Int)))]]) : Blk) = rowI (c ++ [(j : Int)]) := by
          unfold rowI
          rw [List.map_append, List.map_append]
          rfl
        have hcapJ : cap (X.fold i (chU X.off k c j)) (nc + r.length + (chL X.off k (c ++ [(j : Int)])).length) := by
          refine hX.caps (chU X.off k c j) i _ (fun x hx => (chL_co (k + 1) c hco x (by rw [hr, hsc]; simp [hx])).1) ?_
          rw [hr, hsc, List.length_append, List.length_append] at hcap
          rw [show nc + r.length + (chL X.off k (c ++ [(j : Int)])).length + (chU X.off k c j).length = nc + ((chU X.off k c j).length + (chL X.off k (c ++ [(j : Int)])).length + r.length) by omega]
          exact hcap
        have IH := choose_call hX k (c ++ [(j : Int)]) hco'
        have hsz : (c ++ [(j : Int)]).length + k = c.length + (k + 1) := by rw [List.length_append, List.length_singleton]; omega
        rw [hsz] at IH
        have hnq1 : n < q1 := Nat.lt_of_not_le fun h => by have := hfr1 n h; rw [hn1] at this; cases this
        have hlb : ∀ m, lkB (apSt n s1 b) m = if b = true ∧ m = n then none else lkB s1 m := fun m => by
          cases b with
          | true => rw [apSt, lkB_delB]; by_cases e : m = n <;> simp [e]
          | false => simp [apSt]
        refine IH _ _ _ (q1 + 8) (q1 + 4) (nc + r.length) (X.fold i (chU X.off k c j)) (some 41) _ rfl (hX.cx B tm _ _ hC ?_) hcapJ (hX.mono _ s1 _ q1 _ p3 ?_ ?_) ?_ fun st' q' hI' hP => ?_
        · repeat (refine tailT_cons ?_ ?_; (focus decide))
          exact tailT_app rfl
        · exact choose_start hn1 hfr1
        · omega
        · rw [lkB, if_pos rfl, hrow]
        · rw [hrow] at hP
          obtain ⟨f1, f2, f3⟩ := choose_fin hX hn1 hfr1 hP hI'
          rw [← X.fold_app, ← hsc] at f1
          cases b with
          | true =>
            refine ⟨⟨?_, ?_, by rw [f3, ← hrow]⟩, ?_⟩
            · simp only [↓avP, avQ, avR, forall_const, implies_true, reduceIte, Nat.reduceEqDiff, Nat.reduceAdd, Nat.reduceSub, Int.reduceToNat, Nat.reduceLeDiff, Nat.reduceLT, reduceCtorEq, Int.reduceEq, avS, intD_B, snocI, ty_3, ty_26, ty_4, ty_44, ty_72, nmB, unT_shT, unT_app, setT_sha, setT_sh, lkT_sha, lkT_sh, lkB_delB]
            · simp only [↓avP, avQ, avR, forall_const, implies_true, reduceIte, Nat.reduceEqDiff, Nat.reduceAdd, Nat.reduceSub, Int.reduceToNat, Nat.reduceLeDiff, Nat.reduceLT, reduceCtorEq, Int.reduceEq, avS, intD_B, snocI, ty_3, ty_26, ty_4, ty_44, ty_72, nmB, unT_shT, unT_app, setT_sha, setT_sh, lkT_sha, lkT_sh, lkB_delB]
            simp only [↓avP, avQ, avR, forall_const, implies_true, reduceIte, Nat.reduceEqDiff, Nat.reduceAdd, Nat.reduceSub, Int.reduceToNat, Nat.reduceLeDiff, Nat.reduceLT, reduceCtorEq, Int.reduceEq, avS, intD_B, snocI, ty_3, ty_26, ty_4, ty_44, ty_72, nmB, unT_shT, unT_app, setT_sha, setT_sh, lkT_sha, lkT_sh, lkB_delB]
            repeat' (first | (with_reducible refine aw_seq ?_) | ((with_reducible refine twoG_intro ?_ ?_) <;> intro h <;> first | contradiction | ((try simp only [h, avT]); (first | (guard_hyp h : true = true; clear h) | (guard_hyp h : false = false; clear h) | (revert h; intro _)))) | ((with_reducible refine two_intro ?_ ?_) <;> intro h <;> first | contradiction | ((first | (guard_hyp h : true = true; clear h) | (guard_hyp h : false = false; clear h) | (revert h; intro _)))) | ((with_reducible refine And.intro ?_ ?_); (focus (first | omega | rfl | decide | grind))) | (with_reducible refine aw_block ?_) | (with_reducible refine aw_scope ?_) | ((first | ((with_reducible refine aw_regionA T_ok ?_ ?_); kernel_rfl) | ((with_reducible refine aw_drawnA T_ok ?_ ?_ ?_ ?_); kernel_rfl; kernel_rfl; (focus (decide +kernel))) | ((with_reducible refine aw_drawnF T_ok ?_ ?_ ?_ ?_); kernel_rfl; kernel_rfl; (focus (decide +kernel))) | (with_reducible refine aw_label ?_) | ((with_reducible refine aw_rfM ?_ ?_); kernel_rfl) | (with_reducible refine aw_skip ?_) | (with_reducible refine aw_exit ?_) | ((with_reducible refine aw_condM ?_ ?_); kernel_rfl) | (with_reducible refine aw_ret ?_)); simp only [↓avP, avQ, avR, forall_const, implies_true, reduceIte, Nat.reduceEqDiff, Nat.reduceAdd, Nat.reduceSub, Int.reduceToNat, Nat.reduceLeDiff, Nat.reduceLT, reduceCtorEq, Int.reduceEq, avS, intD_B, snocI, ty_3, ty_26, ty_4, ty_44, ty_72, nmB, unT_shT, unT_app, setT_sha, setT_sh, lkT_sha, lkT_sh, lkB_delB]; try simp (disch := omega) only [av_w, av_t1, av_tp, Int.toNat_natCast]))
            refine ⟨(j + 1, finS n q1 c st' true, q'), ⟨by dsimp only; omega, by dsimp only; omega, f1, p4.trans f2⟩, by dsimp only; omega, wk_less ?_⟩
            refine LessS.mk ?_ ?_ ?_
            · dsimp only
              repeat (refine lessT_cons ?_ ?_; (focus (first | rfl | (simp only [lkT_c, lkT_n, lkT_sha, lkT_sh, lkB_c, lkB_n, lkB_setB, if_true, if_false, reduceIte, Nat.reduceEqDiff, Nat.reduceLT, nmB, Int.natCast_add] <;> rfl))))
              first | exact lessT_nil _ | exact lessT_refl _ | (refine lessT_tail ?_; (repeat (refine tailT_cons ?_ ?_; (focus decide))); first | exact tailT_refl _ _ | exact tailT_app rfl)
            · dsimp only
              repeat (first | exact lessB_refl _ | exact lessB_nil _ | (refine lessB_setSelf ?_; (focus assumption)) | (refine lessB_sameE ?_ ?_; (focus (first | rfl | (simp only [lkT_c, lkT_n, lkT_sha, lkT_sh, lkB_c, lkB_n, lkB_setB, if_true, if_false, reduceIte, Nat.reduceEqDiff, Nat.reduceLT, nmB, Int.natCast_add] <;> rfl)))) | (refine lessB_skip ?_ ?_; (focus (first | (with_reducible assumption) | (simp only [lkT_c, lkT_n, lkT_sha, lkT_sh, lkB_c, lkB_n, lkB_setB, if_true, if_false, reduceIte, Nat.reduceEqDiff, Nat.reduceLT, nmB, Int.natCast_add] <;> rfl)))) | (refine lessB_cons ?_ ?_; (focus (first | (with_reducible assumption) | rfl | (simp only [lkT_c, lkT_n, lkT_sha, lkT_sh, lkB_c, lkB_n, lkB_setB, if_true, if_false, reduceIte, Nat.reduceEqDiff, Nat.reduceLT, nmB, Int.natCast_add] <;> rfl)))))
            · dsimp only; omega
          | false =>
            show rwp _ _ _ _ _ _ _
            simp only [↓avP, avQ, avR, forall_const, implies_true, reduceIte, Nat.reduceEqDiff, Nat.reduceAdd, Nat.reduceSub, Int.reduceToNat, Nat.reduceLeDiff, Nat.reduceLT, reduceCtorEq, Int.reduceEq, avS, intD_B, snocI, ty_3, ty_26, ty_4, ty_44, ty_72, nmB, unT_shT, unT_app, setT_sha, setT_sh, lkT_sha, lkT_sh, lkB_delB]
            repeat' (first | (with_reducible refine aw_seq ?_) | ((with_reducible refine twoG_intro ?_ ?_) <;> intro h <;> first | contradiction | ((try simp only [h, avT]); (first | (guard_hyp h : true = true; clear h) | (guard_hyp h : false = false; clear h) | (revert h; intro _)))) | ((with_reducible refine two_intro ?_ ?_) <;> intro h <;> first | contradiction | ((first | (guard_hyp h : true = true; clear h) | (guard_hyp h : false = false; clear h) | (revert h; intro _)))) | ((with_reducible refine And.intro ?_ ?_); (focus (first | omega | rfl | decide | grind))) | (with_reducible refine aw_block ?_) | (with_reducible refine aw_scope ?_) | ((first | ((with_reducible refine aw_regionA T_ok ?_ ?_); kernel_rfl) | ((with_reducible refine aw_drawnA T_ok ?_ ?_ ?_ ?_); kernel_rfl; kernel_rfl; (focus (decide +kernel))) | ((with_reducible refine aw_drawnF T_ok ?_ ?_ ?_ ?_); kernel_rfl; kernel_rfl; (focus (decide +kernel))) | (with_reducible refine aw_label ?_) | ((with_reducible refine aw_rfM ?_ ?_); kernel_rfl) | (with_reducible refine aw_skip ?_) | (with_reducible refine aw_exit ?_) | ((with_reducible refine aw_condM ?_ ?_); kernel_rfl) | (with_reducible refine aw_ret ?_)); simp only [↓avP, avQ, avR, forall_const, implies_true, reduceIte, Nat.reduceEqDiff, Nat.reduceAdd, Nat.reduceSub, Int.reduceToNat, Nat.reduceLeDiff, Nat.reduceLT, reduceCtorEq, Int.reduceEq, avS, intD_B, snocI, ty_3, ty_26, ty_4, ty_44, ty_72, nmB, unT_shT, unT_app, setT_sha, setT_sh, lkT_sha, lkT_sh, lkB_delB]; try simp (disch := omega) only [av_w, av_t1, av_tp, Int.toNat_natCast]))
            refine ⟨(j + 1, finS n q1 c st' false, q'), ⟨by dsimp only; omega, by dsimp only; omega, f1, p4.trans f2⟩, by dsimp only; omega, wk_less ?_⟩
            refine LessS.mk ?_ ?_ ?_
            · dsimp only
              repeat (refine lessT_cons ?_ ?_; (focus (first | rfl | (simp only [lkT_c, lkT_n, lkT_sha, lkT_sh, lkB_c, lkB_n, lkB_setB, if_true, if_false, reduceIte, Nat.reduceEqDiff, Nat.reduceLT, nmB, Int.natCast_add] <;> rfl))))
              first | exact lessT_nil _ | exact lessT_refl _ | (refine lessT_tail ?_; (repeat (refine tailT_cons ?_ ?_; (focus decide))); first | exact tailT_refl _ _ | exact tailT_app rfl)
            · dsimp only
              repeat (first | exact lessB_refl _ | exact lessB_nil _ | (refine lessB_setSelf ?_; (focus assumption)) | (refine lessB_sameE ?_ ?_; (focus (first | rfl | (simp only [lkT_c, lkT_n, lkT_sha, lkT_sh, lkB_c, lkB_n, lkB_setB, if_true, if_false, reduceIte, Nat.reduceEqDiff, Nat.reduceLT, nmB, Int.natCast_add] <;> rfl)))) | (refine lessB_skip ?_ ?_; (focus (first | (with_reducible assumption) | (simp only [lkT_c, lkT_n, lkT_sha, lkT_sh, lkB_c, lkB_n, lkB_setB, if_true, if_false, reduceIte, Nat.reduceEqDiff, Nat.reduceLT, nmB, Int.natCast_add] <;> rfl)))) | (refine lessB_cons ?_ ?_; (focus (first | (with_reducible assumption) | rfl | (simp only [lkT_c, lkT_n, lkT_sha, lkT_sh, lkB_c, lkB_n, lkB_setB, if_true, if_false, reduceIte, Nat.reduceEqDiff, Nat.reduceLT, nmB, Int.natCast_add] <;> rfl)))))
            · dsimp only; omega
      · obtain rfl : j = X.off := by omega
        have hd := ged (Nat.le_refl X.off)
        rw [chU_end] at p3
        repeat' (first | (with_reducible refine aw_seq ?_) | ((with_reducible refine twoG_intro ?_ ?_) <;> intro h <;> first | contradiction | ((try simp only [h, avT]); (first | (guard_hyp h : true = true; clear h) | (guard_hyp h : false = false; clear h) | (revert h; intro _)))) | ((with_reducible refine two_intro ?_ ?_) <;> intro h <;> first | contradiction | ((first | (guard_hyp h : true = true; clear h) | (guard_hyp h : false = false; clear h) | (revert h; intro _)))) | ((with_reducible refine And.intro ?_ ?_); (focus (first | omega | rfl | decide | grind))) | (with_reducible refine aw_block ?_) | (with_reducible refine aw_scope ?_) | ((first | ((with_reducible refine aw_regionA T_ok ?_ ?_); kernel_rfl) | ((with_reducible refine aw_drawnA T_ok ?_ ?_ ?_ ?_); kernel_rfl; kernel_rfl; (focus (decide +kernel))) | ((with_reducible refine aw_drawnF T_ok ?_ ?_ ?_ ?_); kernel_rfl; kernel_rfl; (focus (decide +kernel))) | (with_reducible refine aw_label ?_) | ((with_reducible refine aw_rfM ?_ ?_); kernel_rfl) | (with_reducible refine aw_skip ?_) | (with_reducible refine aw_exit ?_) | ((with_reducible refine aw_condM ?_ ?_); kernel_rfl) | (with_reducible refine aw_ret ?_)); simp only [↓avP, avQ, avR, forall_const, implies_true, reduceIte, Nat.reduceEqDiff, Nat.reduceAdd, Nat.reduceSub, Int.reduceToNat, Nat.reduceLeDiff, Nat.reduceLT, reduceCtorEq, Int.reduceEq, avS, intD_B, snocI, ty_3, ty_26, ty_4, ty_44, ty_72, nmB, unT_shT, unT_app, setT_sha, setT_sh, lkT_sha, lkT_sh, lkB_delB, h2, hd]; try simp (disch := omega) only [av_w, av_t1, av_tp, Int.toNat_natCast]))
        exact hK s1 q1 p3 p4
    · have hb0 : c.length ≠ 0 := by have := of_decide_eq_true hb; omega
      have hN := hN1 hb0
      have hl0 := hl0 hb0
      unfold Chs.caps
      repeat' (first | (with_reducible refine aw_seq ?_) | ((with_reducible refine twoG_intro ?_ ?_) <;> intro h <;> first | contradiction | ((try simp only [h, avT]); (first | (guard_hyp h : true = true; clear h) | (guard_hyp h : false = false; clear h) | (revert h; intro _)))) | ((with_reducible refine two_intro ?_ ?_) <;> intro h <;> first | contradiction | ((first | (guard_hyp h : true = true; clear h) | (guard_hyp h : false = false; clear h) | (revert h; intro _)))) | ((with_reducible refine And.intro ?_ ?_); (focus (first | omega | rfl | decide | grind))) | (with_reducible refine aw_block ?_) | (with_reducible refine aw_scope ?_) | ((first | ((with_reducible refine aw_regionA T_ok ?_ ?_); kernel_rfl) | ((with_reducible refine aw_drawnA T_ok ?_ ?_ ?_ ?_); kernel_rfl; kernel_rfl; (focus (decide +kernel))) | ((with_reducible refine aw_drawnF T_ok ?_ ?_ ?_ ?_); kernel_rfl; kernel_rfl; (focus (decide +kernel))) | ((with_reducible apply callI_in T_ok Try.func53); (focus (dsimp only [Try.f53])); (focus rfl); (focus rfl); kernel_rfl; (focus exact of_decide_eq_true (by kernel_rfl)); (focus (first | exact hdB | kernel_rfl)); kernel_rfl; intro _) | (with_reducible refine aw_label ?_) | ((with_reducible refine aw_rfM ?_ ?_); kernel_rfl) | (with_reducible refine aw_skip ?_) | (with_reducible refine aw_exit ?_) | ((with_reducible refine aw_condM ?_ ?_); kernel_rfl) | (with_reducible refine aw_ret ?_)); simp only [↓avP, avQ, avR, forall_const, implies_true, reduceIte, Nat.reduceEqDiff, Nat.reduceAdd, Nat.reduceSub, Int.reduceToNat, Nat.reduceLeDiff, Nat.reduceLT, reduceCtorEq, Int.reduceEq, avS, intD_B, snocI, ty_3, ty_26, ty_4, ty_44, ty_72, nmB, unT_shT, unT_app, setT_sha, setT_sh, lkT_sha, lkT_sh, lkB_delB, hn0, he, hlen, hb, row_getb]; try simp (disch := omega) only [av_w, av_t1, av_tp, Int.toNat_natCast]))
      refine aw_loopI (fun x : Nat × List (Nat × Blk) × Nat => ⟨(0, .mo n) :: (1, vI ((c.length + (k + 1) : Nat) : Int)) :: (2, .ptr X.yb 0) :: (3, .ptr X.ob 0) :: (4, .ptr X.cv 0) :: (10, vI x.1) :: shT 43 tm, x.2.1, x.2.2⟩)
        (fun x => nextC c ≤ x.1 ∧ x.1 ≤ X.off ∧ X.Inv (X.fold i (chU X.off k c x.1)) x.2.1 x.2.2 ∧ Post st q x.2.1 x.2.2) (fun x => X.off - x.1) (nextC c, st, q) ⟨Nat.le_refl _, hnext, by rw [chU_start]; exact hI, Post.refl _ _⟩ (wk_less ?_) ?_
      · refine LessS.mk ?_ ?_ ?_
        · dsimp only
          repeat (refine lessT_cons ?_ ?_; (focus (first | rfl | (simp only [lkT_c, lkT_n, lkT_sha, lkT_sh, lkB_c, lkB_n, lkB_setB, if_true, if_false, reduceIte, Nat.reduceEqDiff, Nat.reduceLT, nmB, hN] <;> rfl))))
          first | exact lessT_nil _ | exact lessT_refl _ | (refine lessT_tail ?_; (repeat (refine tailT_cons ?_ ?_; (focus decide))); first | exact tailT_refl _ _ | exact tailT_app rfl)
        · dsimp only
          repeat (first | exact lessB_refl _ | exact lessB_nil _ | (refine lessB_setSelf ?_; (focus assumption)) | (refine lessB_sameE ?_ ?_; (focus (first | rfl | (simp only [lkT_c, lkT_n, lkT_sha, lkT_sh, lkB_c, lkB_n, lkB_setB, if_true, if_false, reduceIte, Nat.reduceEqDiff, Nat.reduceLT, nmB, hN] <;> rfl)))) | (refine lessB_skip ?_ ?_; (focus (first | (with_reducible assumption) | (simp only [lkT_c, lkT_n, lkT_sha, lkT_sh, lkB_c, lkB_n, lkB_setB, if_true, if_false, reduceIte, Nat.reduceEqDiff, Nat.reduceLT, nmB, hN] <;> rfl)))) | (refine lessB_cons ?_ ?_; (focus (first | (with_reducible assumption) | rfl | (simp only [lkT_c, lkT_n, lkT_sha, lkT_sh, lkB_c, lkB_n, lkB_setB, if_true, if_false, reduceIte, Nat.reduceEqDiff, Nat.reduceLT, nmB, hN] <;> rfl)))))
        · dsimp only; omega
      rintro ⟨j, s1, q1⟩ ⟨p1, p2, p3, p4⟩
      dsimp only at p1 p2 p3 p4 ⊢
      refine aw_fresh fun hfr1 => ?_
      obtain ⟨ty2, h2⟩ := hX.ob _ s1 q1 p3
      obtain ⟨ty3, h3⟩ := hX.cv _ s1 q1 p3
      have hn1 : lkB s1 n = some (rowI c) := p4.row n c hn
      have hn2 : lkB s1 n = some (.row 3 1 (dV (zD (.int .i64 0))) ((c.map intD).map dV)) := hn1
      rcases Nat.lt_or_ge j X.off with hlt | hge
      · have hd := ltd hlt
        repeat' (first | (with_reducible refine aw_seq ?_) | (with_reducible refine aw_stop (id := 10) ?_) | ((with_reducible refine twoG_intro ?_ ?_) <;> intro h <;> first | contradiction | ((try simp only [h, avT]); (first | (guard_hyp h : true = true; clear h) | (guard_hyp h : false = false; clear h) | (revert h; intro _)))) | ((with_reducible refine two_intro ?_ ?_) <;> intro h <;> first | contradiction | ((first | (guard_hyp h : true = true; clear h) | (guard_hyp h : false = false; clear h) | (revert h; intro _)))) | ((with_reducible refine And.intro ?_ ?_); (focus (first | omega | rfl | decide | grind))) | (with_reducible refine aw_block ?_) | (with_reducible refine aw_scope ?_) | ((first | ((with_reducible refine aw_regionA T_ok ?_ ?_); kernel_rfl) | ((with_reducible refine aw_drawnA T_ok ?_ ?_ ?_ ?_); kernel_rfl; kernel_rfl; (focus (decide +kernel))) | ((with_reducible refine aw_drawnF T_ok ?_ ?_ ?_ ?_); kernel_rfl; kernel_rfl; (focus (decide +kernel))) | (with_reducible refine aw_label ?_) | ((with_reducible refine aw_rfM ?_ ?_); kernel_rfl) | (with_reducible refine aw_skip ?_) | (with_reducible refine aw_exit ?_) | ((with_reducible refine aw_condM ?_ ?_); kernel_rfl) | (with_reducible refine aw_ret ?_)); simp only [↓avP, avQ, avR, forall_const, implies_true, reduceIte, Nat.reduceEqDiff, Nat.reduceAdd, Nat.reduceSub, Int.reduceToNat, Nat.reduceLeDiff, Nat.reduceLT, reduceCtorEq, Int.reduceEq, avS, intD_B, snocI, ty_3, ty_26, ty_4, ty_44, ty_72, nmB, unT_shT, unT_app, setT_sha, setT_sh, lkT_sha, lkT_sh, lkB_delB, h2, hd]; try simp (disch := omega) only [av_w, av_t1, av_tp, Int.toNat_natCast]))
        refine ⟨?_⟩
        have hcn : (X.cv = n) = False := eq_false fun e => by rw [e, hn1] at h3; cases h3
        refine aw_drawnW 4 0 39 n [0, 1, 2, 3, 5] [6, 7] T_ok ?_ ?_ ?_ rfl ?_ ?_
        · kernel_rfl
        · kernel_rfl
        · decide +kernel
        · simp only [lkT_c, lkT_n, lkT_sha, lkT_sh, reduceIte, Nat.reduceEqDiff, Nat.reduceLT]
        simp only [↓avP, avQ, avR, forall_const, implies_true, reduceIte, Nat.reduceEqDiff, Nat.reduceAdd, Nat.reduceSub, Int.reduceToNat, Nat.reduceLeDiff, Nat.reduceLT, reduceCtorEq, Int.reduceEq, avS, intD_B, snocI, ty_3, ty_26, ty_4, ty_44, ty_72, nmB, unT_shT, unT_app, setT_sha, setT_sh, lkT_sha, lkT_sh, lkB_delB, h3, hcn]
        refine ⟨⟨by decide, by rfl⟩, fin2_intro ?_⟩
        simp only [↓avP, avQ, avR, forall_const, implies_true, reduceIte, Nat.reduceEqDiff, Nat.reduceAdd, Nat.reduceSub, Int.reduceToNat, Nat.reduceLeDiff, Nat.reduceLT, reduceCtorEq, Int.reduceEq, avS, intD_B, snocI, ty_3, ty_26, ty_4, ty_44, ty_72, nmB, unT_shT, unT_app, setT_sha, setT_sh, lkT_sha, lkT_sh, lkB_delB, ↓apW.eq_def, hn2]
        refine ⟨rfl, by omega, by omega, fun b => ?_⟩
        simp only [↓avP, avQ, avR, forall_const, implies_true, reduceIte, Nat.reduceEqDiff, Nat.reduceAdd, Nat.reduceSub, Int.reduceToNat, Nat.reduceLeDiff, Nat.reduceLT, reduceCtorEq, Int.reduceEq, avS, intD_B, snocI, ty_3, ty_26, ty_4, ty_44, ty_72, nmB, unT_shT, unT_app, setT_sha, setT_sh, lkT_sha, lkT_sh, lkB_delB, ↓tailW.eq_def]
        obtain ⟨r, hr⟩ := chU_all X.off k c (j := j + 1) (by omega) (by omega)
        have hsc := chU_succ X.off k c (i := j) p1
        have hco' := hco.snoc p1 hlt
        have hrow : (.row 3 1 (dV (zD (.int .i64 0))) ((c.map intD).map dV ++ [[V.d (.c (.int .i64 (j : Int)))]]) : Blk) = rowI (c ++ [(j : Int)]) := by
          unfold rowI
          rw [List.map_append, List.map_append]
          rfl
        have hcapJ : cap (X.fold i (chU X.off k c j)) (nc + r.length + (chL X.off k (c ++ [(j : Int)])).length) := by
          refine hX.caps (chU X.off k c j) i _ (fun x hx => (chL_co (k + 1) c hco x (by rw [hr, hsc]; simp [hx])).1) ?_
          rw [hr, hsc, List.length_append, List.length_append] at hcap
          rw [show nc + r.length + (chL X.off k (c ++ [(j : Int)])).length + (chU X.off k c j).length = nc + ((chU X.off k c j).length + (chL X.off k (c ++ [(j : Int)])).length + r.length) by omega]
          exact hcap
        have IH := choose_call hX k (c ++ [(j : Int)]) hco'
        have hsz : (c ++ [(j : Int)]).length + k = c.length + (k + 1) := by rw [List.length_append, List.length_singleton]; omega
        rw [hsz] at IH
        have hnq1 : n < q1 := Nat.lt_of_not_le fun h => by have := hfr1 n h; rw [hn1] at this; cases this
        have hlb : ∀ m, lkB (apSt n s1 b) m = if b = true ∧ m = n then none else lkB s1 m := fun m => by
          cases b with
          | true => rw [apSt, lkB_delB]; by_cases e : m = n <;> simp [e]
          | false => simp [apSt]
        refine IH _ _ _ (q1 + 8) (q1 + 4) (nc + r.length) (X.fold i (chU X.off k c j)) (some 41) _ rfl (hX.cx B tm _ _ hC ?_) hcapJ (hX.mono _ s1 _ q1 _ p3 ?_ ?_) ?_ fun st' q' hI' hP => ?_
        · repeat (refine tailT_cons ?_ ?_; (focus decide))
          exact tailT_app rfl
        · exact choose_start hn1 hfr1
        · omega
        · rw [lkB, if_pos rfl, hrow]
        · rw [hrow] at hP
          obtain ⟨f1, f2, f3⟩ := choose_fin hX hn1 hfr1 hP hI'
          rw [← X.fold_app, ← hsc] at f1
          cases b with
          | true =>
            refine ⟨⟨?_, ?_, by rw [f3, ← hrow]⟩, ?_⟩
            · simp only [↓avP, avQ, avR, forall_const, implies_true, reduceIte, Nat.reduceEqDiff, Nat.reduceAdd, Nat.reduceSub, Int.reduceToNat, Nat.reduceLeDiff, Nat.reduceLT, reduceCtorEq, Int.reduceEq, avS, intD_B, snocI, ty_3, ty_26, ty_4, ty_44, ty_72, nmB, unT_shT, unT_app, setT_sha, setT_sh, lkT_sha, lkT_sh, lkB_delB]
            · simp only [↓avP, avQ, avR, forall_const, implies_true, reduceIte, Nat.reduceEqDiff, Nat.reduceAdd, Nat.reduceSub, Int.reduceToNat, Nat.reduceLeDiff, Nat.reduceLT, reduceCtorEq, Int.reduceEq, avS, intD_B, snocI, ty_3, ty_26, ty_4, ty_44, ty_72, nmB, unT_shT, unT_app, setT_sha, setT_sh, lkT_sha, lkT_sh, lkB_delB]
            simp only [↓avP, avQ, avR, forall_const, implies_true, reduceIte, Nat.reduceEqDiff, Nat.reduceAdd, Nat.reduceSub, Int.reduceToNat, Nat.reduceLeDiff, Nat.reduceLT, reduceCtorEq, Int.reduceEq, avS, intD_B, snocI, ty_3, ty_26, ty_4, ty_44, ty_72, nmB, unT_shT, unT_app, setT_sha, setT_sh, lkT_sha, lkT_sh, lkB_delB]
            repeat' (first | (with_reducible refine aw_seq ?_) | ((with_reducible refine twoG_intro ?_ ?_) <;> intro h <;> first | contradiction | ((try simp only [h, avT]); (first | (guard_hyp h : true = true; clear h) | (guard_hyp h : false = false; clear h) | (revert h; intro _)))) | ((with_reducible refine two_intro ?_ ?_) <;> intro h <;> first | contradiction | ((first | (guard_hyp h : true = true; clear h) | (guard_hyp h : false = false; clear h) | (revert h; intro _)))) | ((with_reducible refine And.intro ?_ ?_); (focus (first | omega | rfl | decide | grind))) | (with_reducible refine aw_block ?_) | (with_reducible refine aw_scope ?_) | ((first | ((with_reducible refine aw_regionA T_ok ?_ ?_); kernel_rfl) | ((with_reducible refine aw_drawnA T_ok ?_ ?_ ?_ ?_); kernel_rfl; kernel_rfl; (focus (decide +kernel))) | ((with_reducible refine aw_drawnF T_ok ?_ ?_ ?_ ?_); kernel_rfl; kernel_rfl; (focus (decide +kernel))) | (with_reducible refine aw_label ?_) | ((with_reducible refine aw_rfM ?_ ?_); kernel_rfl) | (with_reducible refine aw_skip ?_) | (with_reducible refine aw_exit ?_) | ((with_reducible refine aw_condM ?_ ?_); kernel_rfl) | (with_reducible refine aw_ret ?_)); simp only [↓avP, avQ, avR, forall_const, implies_true, reduceIte, Nat.reduceEqDiff, Nat.reduceAdd, Nat.reduceSub, Int.reduceToNat, Nat.reduceLeDiff, Nat.reduceLT, reduceCtorEq, Int.reduceEq, avS, intD_B, snocI, ty_3, ty_26, ty_4, ty_44, ty_72, nmB, unT_shT, unT_app, setT_sha, setT_sh, lkT_sha, lkT_sh, lkB_delB]; try simp (disch := omega) only [av_w, av_t1, av_tp, Int.toNat_natCast]))
            refine ⟨(j + 1, finS n q1 c st' true, q'), ⟨by dsimp only; omega, by dsimp only; omega, f1, p4.trans f2⟩, by dsimp only; omega, wk_less ?_⟩
            refine LessS.mk ?_ ?_ ?_
            · dsimp only
              repeat (refine lessT_cons ?_ ?_; (focus (first | rfl | (simp only [lkT_c, lkT_n, lkT_sha, lkT_sh, lkB_c, lkB_n, lkB_setB, if_true, if_false, reduceIte, Nat.reduceEqDiff, Nat.reduceLT, nmB, Int.natCast_add] <;> rfl))))
              first | exact lessT_nil _ | exact lessT_refl _ | (refine lessT_tail ?_; (repeat (refine tailT_cons ?_ ?_; (focus decide))); first | exact tailT_refl _ _ | exact tailT_app rfl)
            · dsimp only
              repeat (first | exact lessB_refl _ | exact lessB_nil _ | (refine lessB_setSelf ?_; (focus assumption)) | (refine lessB_sameE ?_ ?_; (focus (first | rfl | (simp only [lkT_c, lkT_n, lkT_sha, lkT_sh, lkB_c, lkB_n, lkB_setB, if_true, if_false, reduceIte, Nat.reduceEqDiff, Nat.reduceLT, nmB, Int.natCast_add] <;> rfl)))) | (refine lessB_skip ?_ ?_; (focus (first | (with_reducible assumption) | (simp only [lkT_c, lkT_n, lkT_sha, lkT_sh, lkB_c, lkB_n, lkB_setB, if_true, if_false, reduceIte, Nat.reduceEqDiff, Nat.reduceLT, nmB, Int.natCast_add] <;> rfl)))) | (refine lessB_cons ?_ ?_; (focus (first | (with_reducible assumption) | rfl | (simp only [lkT_c, lkT_n, lkT_sha, lkT_sh, lkB_c, lkB_n, lkB_setB, if_true, if_false, reduceIte, Nat.reduceEqDiff, Nat.reduceLT, nmB, Int.natCast_add] <;> rfl)))))
            · dsimp only; omega
          | false =>
            show rwp _ _ _ _ _ _ _
            simp only [↓avP, avQ, avR, forall_const, implies_true, reduceIte, Nat.reduceEqDiff, Nat.reduceAdd, Nat.reduceSub, Int.reduceToNat, Nat.reduceLeDiff, Nat.reduceLT, reduceCtorEq, Int.reduceEq, avS, intD_B, snocI, ty_3, ty_26, ty_4, ty_44, ty_72, nmB, unT_shT, unT_app, setT_sha, setT_sh, lkT_sha, lkT_sh, lkB_delB]
            repeat' (first | (with_reducible refine aw_seq ?_) | ((with_reducible refine twoG_intro ?_ ?_) <;> intro h <;> first | contradiction | ((try simp only [h, avT]); (first | (guard_hyp h : true = true; clear h) | (guard_hyp h : false = false; clear h) | (revert h; intro _)))) | ((with_reducible refine two_intro ?_ ?_) <;> intro h <;> first | contradiction | ((first | (guard_hyp h : true = true; clear h) | (guard_hyp h : false = false; clear h) | (revert h; intro _)))) | ((with_reducible refine And.intro ?_ ?_); (focus (first | omega | rfl | decide | grind))) | (with_reducible refine aw_block ?_) | (with_reducible refine aw_scope ?_) | ((first | ((with_reducible refine aw_regionA T_ok ?_ ?_); kernel_rfl) | ((with_reducible refine aw_drawnA T_ok ?_ ?_ ?_ ?_); kernel_rfl; kernel_rfl; (focus (decide +kernel))) | ((with_reducible refine aw_drawnF T_ok ?_ ?_ ?_ ?_); kernel_rfl; kernel_rfl; (focus (decide +kernel))) | (with_reducible refine aw_label ?_) | ((with_reducible refine aw_rfM ?_ ?_); kernel_rfl) | (with_reducible refine aw_skip ?_) | (with_reducible refine aw_exit ?_) | ((with_reducible refine aw_condM ?_ ?_); kernel_rfl) | (with_reducible refine aw_ret ?_)); simp only [↓avP, avQ, avR, forall_const, implies_true, reduceIte, Nat.reduceEqDiff, Nat.reduceAdd, Nat.reduceSub, Int.reduceToNat, Nat.reduceLeDiff, Nat.reduceLT, reduceCtorEq, Int.reduceEq, avS, intD_B, snocI, ty_3, ty_26, ty_4, ty_44, ty_72, nmB, unT_shT, unT_app, setT_sha, setT_sh, lkT_sha, lkT_sh, lkB_delB]; try simp (disch := omega) only [av_w, av_t1, av_tp, Int.toNat_natCast]))
            refine ⟨(j + 1, finS n q1 c st' false, q'), ⟨by dsimp only; omega, by dsimp only; omega, f1, p4.trans f2⟩, by dsimp only; omega, wk_less ?_⟩
            refine LessS.mk ?_ ?_ ?_
            · dsimp only
              repeat (refine lessT_cons ?_ ?_; (focus (first | rfl | (simp only [lkT_c, lkT_n, lkT_sha, lkT_sh, lkB_c, lkB_n, lkB_setB, if_true, if_false, reduceIte, Nat.reduceEqDiff, Nat.reduceLT, nmB, Int.natCast_add] <;> rfl))))
              first | exact lessT_nil _ | exact lessT_refl _ | (refine lessT_tail ?_; (repeat (refine tailT_cons ?_ ?_; (focus decide))); first | exact tailT_refl _ _ | exact tailT_app rfl)
            · dsimp only
              repeat (first | exact lessB_refl _ | exact lessB_nil _ | (refine lessB_setSelf ?_; (focus assumption)) | (refine lessB_sameE ?_ ?_; (focus (first | rfl | (simp only [lkT_c, lkT_n, lkT_sha, lkT_sh, lkB_c, lkB_n, lkB_setB, if_true, if_false, reduceIte, Nat.reduceEqDiff, Nat.reduceLT, nmB, Int.natCast_add] <;> rfl)))) | (refine lessB_skip ?_ ?_; (focus (first | (with_reducible assumption) | (simp only [lkT_c, lkT_n, lkT_sha, lkT_sh, lkB_c, lkB_n, lkB_setB, if_true, if_false, reduceIte, Nat.reduceEqDiff, Nat.reduceLT, nmB, Int.natCast_add] <;> rfl)))) | (refine lessB_cons ?_ ?_; (focus (first | (with_reducible assumption) | rfl | (simp only [lkT_c, lkT_n, lkT_sha, lkT_sh, lkB_c, lkB_n, lkB_setB, if_true, if_false, reduceIte, Nat.reduceEqDiff, Nat.reduceLT, nmB, Int.natCast_add] <;> rfl)))))
            · dsimp only; omega
      · obtain rfl : j = X.off := by omega
        have hd := ged (Nat.le_refl X.off)
        rw [chU_end] at p3
        repeat' (first | (with_reducible refine aw_seq ?_) | ((with_reducible refine twoG_intro ?_ ?_) <;> intro h <;> first | contradiction | ((try simp only [h, avT]); (first | (guard_hyp h : true = true; clear h) | (guard_hyp h : false = false; clear h) | (revert h; intro _)))) | ((with_reducible refine two_intro ?_ ?_) <;> intro h <;> first | contradiction | ((first | (guard_hyp h : true = true; clear h) | (guard_hyp h : false = false; clear h) | (revert h; intro _)))) | ((with_reducible refine And.intro ?_ ?_); (focus (first | omega | rfl | decide | grind))) | (with_reducible refine aw_block ?_) | (with_reducible refine aw_scope ?_) | ((first | ((with_reducible refine aw_regionA T_ok ?_ ?_); kernel_rfl) | ((with_reducible refine aw_drawnA T_ok ?_ ?_ ?_ ?_); kernel_rfl; kernel_rfl; (focus (decide +kernel))) | ((with_reducible refine aw_drawnF T_ok ?_ ?_ ?_ ?_); kernel_rfl; kernel_rfl; (focus (decide +kernel))) | (with_reducible refine aw_label ?_) | ((with_reducible refine aw_rfM ?_ ?_); kernel_rfl) | (with_reducible refine aw_skip ?_) | (with_reducible refine aw_exit ?_) | ((with_reducible refine aw_condM ?_ ?_); kernel_rfl) | (with_reducible refine aw_ret ?_)); simp only [↓avP, avQ, avR, forall_const, implies_true, reduceIte, Nat.reduceEqDiff, Nat.reduceAdd, Nat.reduceSub, Int.reduceToNat, Nat.reduceLeDiff, Nat.reduceLT, reduceCtorEq, Int.reduceEq, avS, intD_B, snocI, ty_3, ty_26, ty_4, ty_44, ty_72, nmB, unT_shT, unT_app, setT_sha, setT_sh, lkT_sha, lkT_sh, lkB_delB, h2, hd]; try simp (disch := omega) only [av_w, av_t1, av_tp, Int.toNat_natCast]))
        exact hK s1 q1 p3 p4
end Go.Proofs.Ytlnkmaejiceloaa


namespace Go.Proofs.Ytlnkmaejiceloaa
set_option linter.unusedSimpArgs false
set_option linter.unusedVariables false
open Go.RowKit
set_option maxRecDepth 100000
set_option maxHeartbeats 4000000
end Go.Proofs.Ytlnkmaejiceloaa


namespace Go.Proofs.Ytlnkmaejiceloaa
set_option linter.unusedSimpArgs false
set_option linter.unusedVariables false
open Go.RowKit
set_option maxRecDepth 100000
set_option maxHeartbeats 4000000
theorem Spec.args {P : Program} {f : FuncId} {xs ys : List A} {r : Ret} (h : Spec P f ys r) (hs : SubL xs ys) : Spec P f xs r := fun F w us hF ha => h F w us hF (subL_ok hs ha)
def okIb (l : List Int) : Bool := l.all (fun n => decide (-9223372036854775808 ≤ n ∧ n ≤ 9223372036854775807)) && decide (l.length ≤ 140737488351232)
theorem okI_b {l : List Int} (h : okIb l = true) : (∀ n ∈ l, -9223372036854775808 ≤ n ∧ n ≤ 9223372036854775807) ∧ l.length ≤ 140737488351232 := by
  unfold okIb at h
  simp only [Bool.and_eq_true, List.all_eq_true, decide_eq_true_eq] at h
  exact h
def okFb (f : FlowP) : Bool := decide (-9223372036854775808 ≤ f.senders ∧ f.senders ≤ 9223372036854775807) && decide (f.lots.length ≤ 140737488351232) && f.lots.all fun x => okIb x.inn && okIb x.perm
theorem okF_b {f : FlowP} (h : okFb f = true) : OkF f := by
  unfold okFb at h
  simp only [Bool.and_eq_true, List.all_eq_true, decide_eq_true_eq] at h
  exact ⟨h.1.1, h.1.2, fun x hx => ⟨(okI_b (h.2 x hx).1).1, (okI_b (h.2 x hx).2).1, (okI_b (h.2 x hx).1).2, (okI_b (h.2 x hx).2).2⟩⟩
abbrev iL (n : Int) : D := .c (.int .i64 n)
abbrev nilL : D := .c (.slice none 0 0)
abbrev isL (l : List Int) : D := .sl 1 (zD (.int .i64 0)) (l.map fun n => [iL n])
abbrev G1 : FlowP := ⟨3, [⟨[0, 2], false, []⟩]⟩
theorem sub_nil {sz : Nat} {d0 : List D} : SubD nilL (.sl sz d0 []) := SubD.of _ _ rfl
end Go.Proofs.Ytlnkmaejiceloaa

