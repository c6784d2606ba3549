import Derived.Test.YtlnkmaejiceloaaHL12
import Derived.Test.YtlnkmaejiceloaaHL8
import Derived.Test.YtlnkmaejiceloaaHL1
import Derived.Test.YtlnkmaejiceloaaHL13
namespace Go.Proofs.Ytlnkmaejiceloaa
open Go.RowKit Go.Lib
set_option maxRecDepth 100000
set_option maxHeartbeats 4000000
set_option linter.unusedVariables false
set_option linter.unusedSimpArgs false
def withinB (a b : List Int) : Bool := a.all fun x => decide (x ∈ b)
theorem bwithin1_spec (b : List Int) (n : Int) (hl : b.length ≤ 140737488351232) : Spec Try.prog 55 [aI n, .one (.pt [.sl 1 (intD 0) (b.map intD)])] (.r1 (aB (!decide (n ∈ b)))) := by
  refine spec_of T_ok Try.func55 (by dsimp only [Try.f55]) rfl rfl (by simp) fun w F => ?_
  have hC := contains_spec b n hl
  repeat' (first | (with_reducible refine aw_seq ?_) | ((with_reducible refine twoG_intro ?_ ?_) <;> intro h <;> first | contradiction | ((try simp only [h, avT]); (first | (guard_hyp h : true = true; clear h) | (guard_hyp h : false = false; clear h) | (revert h; intro _)))) | ((with_reducible refine two_intro ?_ ?_) <;> intro h <;> first | contradiction | ((first | (guard_hyp h : true = true; clear h) | (guard_hyp h : false = false; clear h) | (revert h; intro _)))) | ((with_reducible refine And.intro ?_ ?_); (focus (first | omega | rfl | decide | grind))) | (with_reducible refine aw_block ?_) | (with_reducible refine aw_scope ?_) | ((first | ((with_reducible refine aw_regionA T_ok ?_ ?_); kernel_rfl) | ((with_reducible refine aw_drawnA T_ok ?_ ?_ ?_ ?_); kernel_rfl; kernel_rfl; (focus (decide +kernel))) | ((with_reducible refine aw_drawnF T_ok ?_ ?_ ?_ ?_); kernel_rfl; kernel_rfl; (focus (decide +kernel))) | ((with_reducible refine callK_intro (hC) (by with_unfolding_all rfl) ?_ ?_); kernel_rfl) | ((with_reducible refine callI_spec (hC) (by with_unfolding_all rfl) ?_ ?_ ?_); kernel_rfl; kernel_rfl) | (with_reducible refine aw_label ?_) | ((with_reducible refine aw_rfM ?_ ?_); kernel_rfl) | (with_reducible refine aw_skip ?_) | (with_reducible refine aw_exit ?_) | ((with_reducible refine aw_condM ?_ ?_); kernel_rfl) | (with_reducible refine aw_ret ?_)); simp only [↓avP, avQ, avR, forall_const, implies_true, reduceIte, Nat.reduceEqDiff, Nat.reduceAdd, Nat.reduceSub, Int.reduceToNat, Nat.reduceLeDiff, Nat.reduceLT, reduceCtorEq, Int.reduceEq, avS, intD_B, snocI, ty_3, ty_26, ty_4, ty_25]; try simp (disch := omega) only [av_w, av_t1, av_tp, Int.toNat_natCast]))
  exact Sub.refl _
theorem bwithin_spec (a b : List Int) (ha : a.length ≤ 140737488351232) (hb : b.length ≤ 140737488351232) : Spec Try.prog 32 [aIs a, aIs b] (.r1 (aB (withinB a b))) := by
  refine spec_of T_ok Try.func32 (by dsimp only [Try.f32]) rfl rfl (by simp) fun w F => ?_
  have hw : ∀ asA r, FnM aI (fun n => !decide (n ∈ b)) a asA r → Spec Try.prog 55 (asA ++ [.one (.pt [.sl 1 (intD 0) (b.map intD)])]) r := by
    rintro asA r ⟨n, hm, rfl, rfl⟩
    exact bwithin1_spec b n hb
  have hI := ints_contains a (fun n => !decide (n ∈ b)) ha
  have hs : (a.any fun n => !decide (n ∈ b)) = !withinB a b := by
    unfold withinB
    rw [Bool.eq_iff_iff, List.any_eq_true, Bool.not_eq_true', List.all_eq_false]
    constructor
    · rintro ⟨x, h1, h2⟩; exact ⟨x, h1, by simpa using h2⟩
    · rintro ⟨x, h1, h2⟩; exact ⟨x, h1, by simpa using h2⟩
  rw [hs] at hI
  repeat' (first | (with_reducible refine aw_seq ?_) | ((with_reducible refine twoG_intro ?_ ?_) <;> intro h <;> first | contradiction | ((try simp only [h, avT]); (first | (guard_hyp h : true = true; clear h) | (guard_hyp h : false = false; clear h) | (revert h; intro _)))) | ((with_reducible refine two_intro ?_ ?_) <;> intro h <;> first | contradiction | ((first | (guard_hyp h : true = true; clear h) | (guard_hyp h : false = false; clear h) | (revert h; intro _)))) | ((with_reducible refine And.intro ?_ ?_); (focus (first | omega | rfl | decide | grind))) | (with_reducible refine aw_block ?_) | (with_reducible refine aw_scope ?_) | ((first | ((with_reducible refine aw_regionA T_ok ?_ ?_); kernel_rfl) | ((with_reducible refine aw_drawnA T_ok ?_ ?_ ?_ ?_); kernel_rfl; kernel_rfl; (focus (decide +kernel))) | ((with_reducible refine aw_drawnF T_ok ?_ ?_ ?_ ?_); kernel_rfl; kernel_rfl; (focus (decide +kernel))) | ((with_reducible refine callK_fz (hI) rfl ?_ ?_ ?_); (focus (repeat' (first | (exact FzA.nil) | (exact FzL.nil) | (exact FzLL.nil) | (exact FzLL_dV _) | (exact Fz.d rfl) | (refine FzA.one ?_ ?_) | (refine FzA.agg ?_ ?_) | (refine FzL.cons ?_ ?_) | (refine FzLL.cons ?_ ?_) | (exact hw) | (refine Fz.fn ?_ (by kernel_rfl) (hw)) | (refine Fz.fm ?_ (by kernel_rfl) (hw)) | (refine Fz.fc (by kernel_rfl) (hw)) | (refine Fz.pt rfl ?_) | (refine Fz.mp rfl ?_ ?_ ?_) | (refine Fz.row rfl ?_) | (refine Fz.ag ?_))); done); kernel_rfl) | ((with_reducible refine callI_fz (hI) rfl ?_ ?_ ?_ ?_); (focus (repeat' (first | (exact FzA.nil) | (exact FzL.nil) | (exact FzLL.nil) | (exact FzLL_dV _) | (exact Fz.d rfl) | (refine FzA.one ?_ ?_) | (refine FzA.agg ?_ ?_) | (refine FzL.cons ?_ ?_) | (refine FzLL.cons ?_ ?_) | (exact hw) | (refine Fz.fn ?_ (by kernel_rfl) (hw)) | (refine Fz.fm ?_ (by kernel_rfl) (hw)) | (refine Fz.fc (by kernel_rfl) (hw)) | (refine Fz.pt rfl ?_) | (refine Fz.mp rfl ?_ ?_ ?_) | (refine Fz.row rfl ?_) | (refine Fz.ag ?_))); done); kernel_rfl; kernel_rfl) | (with_reducible refine aw_label ?_) | ((with_reducible refine aw_rfM ?_ ?_); kernel_rfl) | (with_reducible refine aw_skip ?_) | (with_reducible refine aw_exit ?_) | ((with_reducible refine aw_condM ?_ ?_); kernel_rfl) | (with_reducible refine aw_ret ?_)); simp only [↓avP, avQ, avR, forall_const, implies_true, reduceIte, Nat.reduceEqDiff, Nat.reduceAdd, Nat.reduceSub, Int.reduceToNat, Nat.reduceLeDiff, Nat.reduceLT, reduceCtorEq, Int.reduceEq, avS, intD_B, snocI, ty_3, ty_26, ty_4, ty_25]; try simp (disch := omega) only [av_w, av_t1, av_tp, Int.toNat_natCast]))
  exact Sub.refl _
theorem bleast1_spec (y x : List Int) (hy : y.length ≤ 140737488351232) (hx : x.length ≤ 140737488351232) : Spec Try.prog 31 [aIs y, .one (.pt [.sl 1 (intD 0) (x.map intD)])] (.r1 (aB (withinB y x))) := by
  refine spec_of T_ok Try.func31 (by dsimp only [Try.f31]) rfl rfl (by simp) fun w F => ?_
  have hW := bwithin_spec y x hy hx
  repeat' (first | (with_reducible refine aw_seq ?_) | ((with_reducible refine twoG_intro ?_ ?_) <;> intro h <;> first | contradiction | ((try simp only [h, avT]); (first | (guard_hyp h : true = true; clear h) | (guard_hyp h : false = false; clear h) | (revert h; intro _)))) | ((with_reducible refine two_intro ?_ ?_) <;> intro h <;> first | contradiction | ((first | (guard_hyp h : true = true; clear h) | (guard_hyp h : false = false; clear h) | (revert h; intro _)))) | ((with_reducible refine And.intro ?_ ?_); (focus (first | omega | rfl | decide | grind))) | (with_reducible refine aw_block ?_) | (with_reducible refine aw_scope ?_) | ((first | ((with_reducible refine aw_regionA T_ok ?_ ?_); kernel_rfl) | ((with_reducible refine aw_drawnA T_ok ?_ ?_ ?_ ?_); kernel_rfl; kernel_rfl; (focus (decide +kernel))) | ((with_reducible refine aw_drawnF T_ok ?_ ?_ ?_ ?_); kernel_rfl; kernel_rfl; (focus (decide +kernel))) | ((with_reducible refine callK_intro (hW) (by with_unfolding_all rfl) ?_ ?_); kernel_rfl) | ((with_reducible refine callI_spec (hW) (by with_unfolding_all rfl) ?_ ?_ ?_); kernel_rfl; kernel_rfl) | (with_reducible refine aw_label ?_) | ((with_reducible refine aw_rfM ?_ ?_); kernel_rfl) | (with_reducible refine aw_skip ?_) | (with_reducible refine aw_exit ?_) | ((with_reducible refine aw_condM ?_ ?_); kernel_rfl) | (with_reducible refine aw_ret ?_)); simp only [↓avP, avQ, avR, forall_const, implies_true, reduceIte, Nat.reduceEqDiff, Nat.reduceAdd, Nat.reduceSub, Int.reduceToNat, Nat.reduceLeDiff, Nat.reduceLT, reduceCtorEq, Int.reduceEq, avS, intD_B, snocI, ty_3, ty_26, ty_4, ty_25]; try simp (disch := omega) only [av_w, av_t1, av_tp, Int.toNat_natCast]))
  exact Sub.refl _
theorem elemIb : Elem Try.prog 26 3 (.int .i64 0) 1 8 :=
  ⟨Try.underlying26, by kernel_rfl, by rfl, by decide, by intro _ h; cases h⟩
theorem rr_sourceb {F : Ft} {w : World} {sz : Nat} {es : List (List D)} {ad : Addr} (h : RR F w sz (some ad) es 0) : ∃ news, RDL F w es.flatten news ∧ news.length = es.length * sz ∧ (∀ u ∈ news, u.oneCell' = true) ∧ (∀ x ∈ es, x.length = sz) ∧ ∀ j u, news[j]? = some u → w.cell? (ad.add j) = some u := by
  cases es with
  | nil => exact ⟨[], by simp [RDL], by simp, by simp, by simp, by simp⟩
  | cons e es =>
    have h' := h
    simp only [RR] at h'
    obtain ⟨⟨b, o, us, e1, _⟩, _⟩ := h'
    cases e1
    obtain ⟨us, h1, h2, h3, h4, h5⟩ := h.cells
    refine ⟨us, h1, h2, h3, h4, fun j u hj => ?_⟩
    have := (h5 j u hj).2
    rw [Nat.add_zero] at this
    rw [Addr.add_lit]
    exact this
theorem run_eql_nilb {P : Program} {t e : TypeId} (ht : P.underlying t = some (.slice e)) (a : Option Addr) (n c : Nat) (w : World) : (binOp .eql t (.slice a n c) (.slice none 0 0)).run P w = .ok (.bool a.isNone) w := by
  have he : (Op.equal t (.slice a n c) (.slice none 0 0)).run P w = .ok a.isNone w := by
    have gen : ∀ d, (Op.equalIn (d + 1) t (.slice a n c) (.slice none 0 0)).run P w = .ok a.isNone w := fun d => by cases a <;> simp [Op.equalIn, run_underlying ht]
    exact gen _
  simp [binOp, he]
theorem cloneI_spec (es : List (List D)) (dd0 d0 : List D) (hes : es.length ≤ 1099511627776) : SpecO Try.prog 54 [.one (.sl 1 dd0 es)] 3 1 d0 es := by
  intro F w us hF ha
  simp only [RAL] at ha
  obtain ⟨u, r, rfl, hu, rfl⟩ := ha
  simp only [RA, RD] at hu
  obtain ⟨a, cap, rfl, hcap, hmax, hrr⟩ := hu
  cases a with
  | none =>
    have hn := hrr.none_nil
    subst hn
    go_enter Try.func54, Try.ntmps54
    go_wp2_with (simp only [run_eql_nilb Try.underlying26])
    go_ret
    exact ⟨_, [], rfl, Below.refl _ _, World.ownsRow_nil _ _ _ _, by simp [RDL], by simp, by simp, by simp, fun b h => by cases h⟩
  | some ad =>
    obtain ⟨news, n1, n2, n3, n4, n5⟩ := rr_sourceb hrr
    have hone : ∀ W : World, (∀ x u, w.cell? x = some u → W.cell? x = some u) → Source Try.prog 26 26 1 W (.slice (some ad) es.length cap) es.length news := fun W hW =>
      Source.cells ad _ cap news rfl n2 (fun j u hj => hW _ _ (n5 j u hj)) n3
    clear n5
    go_enter Try.func54, Try.ntmps54
    go_wp2_with (first
      | simp only [run_eql_nilb Try.underlying26]
      | (at_builtin; refine wpList_app rfl _ _ rfl elemIb w.heap.size _ 0 [] rfl (NoneAt.own ⟨_, rfl, Nat.le_refl _, Box.new _ _ _⟩) _ _ news rfl (hone _ (fun x u hx => by rw [World.cell?_alloc_lt _ _ _ (World.block_lt_of_cell? _ _ hx)]; exact hx)) (.inl rfl) (by unfold maxLen; omega) (by omega) (by simp) (fun v' w' hg => ?_)))
    go_ret
    rw [Nat.zero_add, List.nil_append] at hg
    have hb1 : Below w.heap.size w (w.alloc (.cells #[] 3)) := (Below.refl _ _).alloc (Nat.le_refl _) _
    have hg' := hg.behind hb1
    have hb := hg'.below (B := w.heap.size) (Nat.le_refl _) (fun g e => by cases e; exact Nat.le_refl _)
    refine ⟨_, news, rfl, hb, ⟨hg.own.1, hg.own.2.imp id (fun ⟨g, c', cur, e1, _, e3⟩ => ⟨g, c', cur, e1, Nat.zero_le _, e3⟩)⟩, RDL.mono (Ft.le_refl _) (.of_blocks (fun b o h => hb.block b (hF.1 b o h)) (fun b h => hb.block b (hF.2 b h))) _ _ n1, n3, n4, hmax, fun b h => ?_⟩
    rcases hg.own.2 with ⟨rfl, _⟩ | ⟨g, c', cur, rfl, h1, _⟩
    · cases h
    · cases h; exact h1
end Go.Proofs.Ytlnkmaejiceloaa


namespace Go.Proofs.Ytlnkmaejiceloaa
set_option linter.unusedVariables false
set_option linter.unusedSimpArgs false
open Go.RowKit
def lessT (l1 l : List (Nat × V)) : Prop := ∀ t, lkT l1 t = lkT l t ∨ lkT l1 t = .any
def lessB (l1 l : List (Nat × Blk)) : Prop := ∀ n x, lkB l1 n = some x → lkB l n = some x
theorem lessT_refl (l : List (Nat × V)) : lessT l l := fun _ => .inl rfl
theorem lessT_nil (l : List (Nat × V)) : lessT [] l := fun _ => .inr rfl
theorem lessT_cons {l1 l : List (Nat × V)} {k : Nat} {v : V} (h : lkT l k = v) (h1 : lessT l1 l) : lessT ((k, v) :: l1) l := fun t => by
  rw [lkT]
  by_cases e : t = k
  · rw [if_pos e, e]; exact .inl h.symm
  · rw [if_neg e]; exact h1 t
theorem lessB_refl (l : List (Nat × Blk)) : lessB l l := fun _ _ h => h
theorem lessB_nil (l : List (Nat × Blk)) : lessB [] l := fun _ _ h => by cases h
theorem lessB_cons {l1 l : List (Nat × Blk)} {k : Nat} {x : Blk} (h : lkB l k = some x) (h1 : lessB l1 l) : lessB ((k, x) :: l1) l := fun n y hy => by
  rw [lkB] at hy
  by_cases e : n = k
  · rw [if_pos e] at hy; cases hy; rw [e]; exact h
  · rw [if_neg e] at hy; exact h1 n y hy
theorem lessB_skip {l1 l : List (Nat × Blk)} {k : Nat} {x : Blk} (h : lkB l1 k = none) (h1 : lessB l1 l) : lessB l1 ((k, x) :: l) := fun n y hy => by
  rw [lkB]
  by_cases e : n = k
  · subst e; rw [h] at hy; cases hy
  · rw [if_neg e]; exact h1 n y hy
theorem lessB_same {l1 l : List (Nat × Blk)} {k : Nat} {x : Blk} (h1 : lessB l1 l) : lessB ((k, x) :: l1) ((k, x) :: l) := fun n y hy => by
  rw [lkB] at hy ⊢
  by_cases e : n = k
  · rw [if_pos e] at hy ⊢; exact hy
  · rw [if_neg e] at hy ⊢; exact h1 n y hy
theorem lessB_sameE {l1 l : List (Nat × Blk)} {k : Nat} {x y : Blk} (h : x = y) (h1 : lessB l1 l) : lessB ((k, x) :: l1) ((k, y) :: l) := by subst h; exact lessB_same h1
structure LessS (s s1 : St) : Prop where
  t : lessT s1.tm s.tm
  b : lessB s1.st s.st
  n : s.nx ≤ s1.nx
theorem LessS.refl (s : St) : LessS s s := ⟨lessT_refl _, lessB_refl _, Nat.le_refl _⟩
theorem unT_shT (N : Nat) : ∀ l : List (Nat × V), unT N (shT N l) = l
  | [] => rfl
  | (t, v) :: l => by
    simp only [shT, unT]
    rw [if_pos (by omega), unT_shT N l, Nat.add_sub_cancel]
theorem keys_shT (N : Nat) : ∀ l : List (Nat × V), ∀ p ∈ shT N l, N ≤ p.1
  | [], p, h => by cases h
  | (t, v) :: l, p, h => by
    simp only [shT, List.mem_cons] at h
    rcases h with rfl | h
    · show N ≤ t + N; omega
    · exact keys_shT N l p h
theorem setT_off (k : Nat) (v : V) : ∀ l r : List (Nat × V), (∀ p ∈ l, k ≠ p.1) → setT k v (l ++ r) = l ++ setT k v r
  | [], r, _ => rfl
  | (t, u) :: l, r, h => by
    rw [List.cons_append, setT, if_neg (h (t, u) (by simp)), setT_off k v l r (fun p hp => h p (by simp [hp]))]
    rfl
theorem lkT_off (k : Nat) : ∀ l r : List (Nat × V), (∀ p ∈ l, k ≠ p.1) → lkT (l ++ r) k = lkT r k
  | [], r, _ => rfl
  | (t, u) :: l, r, h => by
    rw [List.cons_append, lkT, if_neg (h (t, u) (by simp)), lkT_off k l r (fun p hp => h p (by simp [hp]))]
theorem setT_sha {N k : Nat} (h : k < N) (v : V) (tm r : List (Nat × V)) : setT k v (shT N tm ++ r) = shT N tm ++ setT k v r :=
  setT_off k v _ _ fun p hp e => by have := keys_shT N tm p hp; omega
theorem setT_sh {N k : Nat} (h : k < N) (v : V) (tm : List (Nat × V)) : setT k v (shT N tm) = shT N tm ++ [(k, v)] := by
  have := setT_sha h v tm []
  rwa [List.append_nil] at this
theorem lkT_sha {N k : Nat} (h : k < N) (tm r : List (Nat × V)) : lkT (shT N tm ++ r) k = lkT r k :=
  lkT_off k _ _ fun p hp e => by have := keys_shT N tm p hp; omega
theorem lkT_sh {N k : Nat} (h : k < N) (tm : List (Nat × V)) : lkT (shT N tm) k = .any := by rw [lkT_shT, if_neg (by omega)]
theorem unT_app (N : Nat) : ∀ l r : List (Nat × V), unT N (l ++ r) = unT N l ++ unT N r
  | [], r => rfl
  | (t, v) :: l, r => by
    simp only [List.cons_append, unT, unT_app N l r]
    split <;> simp
def tailT (N : Nat) (tm l : List (Nat × V)) : Prop := ∀ t, N ≤ t → lkT l t = lkT (shT N tm) t
theorem tailT_refl (N : Nat) (tm : List (Nat × V)) : tailT N tm (shT N tm) := fun _ _ => rfl
theorem tailT_cons {N k : Nat} {tm l : List (Nat × V)} {v : V} (h : k < N) (h1 : tailT N tm l) : tailT N tm ((k, v) :: l) := fun t ht => by rw [lkT, if_neg (by omega)]; exact h1 t ht
def keysL (N : Nat) : List (Nat × V) → Bool
  | [] => true
  | (k, _) :: l => decide (k < N) && keysL N l
theorem tailT_app {N : Nat} {tm : List (Nat × V)} : ∀ {r : List (Nat × V)}, keysL N r = true → tailT N tm (shT N tm ++ r)
  | r, h => fun t ht => by
    have h0 : ∀ r : List (Nat × V), keysL N r = true → lkT r t = .any := by
      intro r
      induction r with
      | nil => intro _; rfl
      | cons p r ih =>
        obtain ⟨k, v⟩ := p
        intro h
        simp only [keysL, Bool.and_eq_true, decide_eq_true_eq] at h
        rw [lkT, if_neg (by omega)]; exact ih h.2
    generalize shT N tm = l
    induction l with
    | nil => exact h0 r h
    | cons p l ih =>
      obtain ⟨k, v⟩ := p
      simp only [List.cons_append, lkT]
      split
      · rfl
      · exact ih
theorem lessT_tail {N : Nat} {tm l : List (Nat × V)} (h : tailT N tm l) : lessT (shT N tm) l := fun t => by
  by_cases ht : N ≤ t
  · left; exact (h t ht).symm
  · right; rw [lkT_shT, if_neg ht]
theorem nmL (a b : Nat) : (a + b = a) = (b = 0) := propext Nat.add_eq_left
theorem nmR (a b : Nat) : (a = a + b) = (b = 0) := propext Nat.left_eq_add
theorem nmL2 (a b c : Nat) : (a + b + c = a) = (b + c = 0) := propext (by omega)
theorem nmR2 (a b c : Nat) : (a = a + b + c) = (b + c = 0) := propext (by omega)
theorem nmL3 (a b c d : Nat) : (a + b + c + d = a) = (b + c + d = 0) := propext (by omega)
theorem nmR3 (a b c d : Nat) : (a = a + b + c + d) = (b + c + d = 0) := propext (by omega)
theorem nmL4 (a b c d e : Nat) : (a + b + c + d + e = a) = (b + c + d + e = 0) := propext (by omega)
theorem nmR4 (a b c d e : Nat) : (a = a + b + c + d + e) = (b + c + d + e = 0) := propext (by omega)
theorem nmL5 (a b c d e f : Nat) : (a + b + c + d + e + f = a) = (b + c + d + e + f = 0) := propext (by omega)
theorem nmR5 (a b c d e f : Nat) : (a = a + b + c + d + e + f) = (b + c + d + e + f = 0) := propext (by omega)
set_option linter.defProp false in
def nmB := And.intro nmL (And.intro nmR (And.intro nmL2 (And.intro nmR2 (And.intro nmL3 (And.intro nmR3 (And.intro nmL4 (And.intro nmR4 (And.intro nmL5 nmR5))))))))
theorem lessB_setSelf {st : List (Nat × Blk)} {m : Nat} {x : Blk} (h : lkB st m = some x) : lessB (setB m x st) st := fun n y hy => by
  rw [lkB_setB] at hy
  by_cases e : n = m
  · rw [if_pos e] at hy; cases hy; rw [e]; exact h
  · rw [if_neg e] at hy; exact hy
section
variable {P : Program} {B : Base} {T : Tab}
theorem LessS.gam {s s1 : St} (h : LessS s s1) {E : Env} {a : Act} (hG : Gam P B s E a) : Gam P B s1 E a := gam_less h.t h.b h.n hG
theorem wk_less {s s1 : St} (h : LessS s s1) : Wk P B s s1 := fun E _ hG => ⟨E, rfl, h.gam hG⟩
theorem callI_post {f : FuncId} {vs : List V} {d : Option Tmp} {K : St → Prop} {s : St} (h : callI P B f vs d s (fun s' => ∃ s1, LessS s' s1 ∧ K s1) ⟨⟩) : callI P B f vs d s K ⟨⟩ :=
  ⟨h.1, fun E a us hG hv => (h.2 E a us hG hv).mono fun _ _ ⟨u, E', s', h1, h2, h3, s1, h4, h5⟩ => ⟨u, E', s1, h1, h2, h4.gam h3, h5⟩⟩
theorem callI_fresh {f : FuncId} {vs : List V} {d : Option Tmp} {K : St → Prop} {s : St} (hname : (P.funcs[f]?).any (fun fn => fn.name != "runtime.NumGoroutine" && fn.body.isSome) = true) (h : (∀ n, s.nx ≤ n → lkB s.st n = none) → callI P B f vs d s K ⟨⟩) : callI P B f vs d s K ⟨⟩ :=
  ⟨hname, fun E a us hG hv => (h fun _ hn => hG.1.none_of_fresh hn).2 E a us hG hv⟩
theorem aw_fresh {c : Code} {Q : AQ} {s : St} (h : (∀ n, s.nx ≤ n → lkB s.st n = none) → AW P B c Q ⟨⟩ s) : AW P B c Q ⟨⟩ s := fun E a hG => h (fun _ hn => hG.1.none_of_fresh hn) E a hG
theorem aw_lessS {c : Code} {Q : AQ} {s s1 : St} (hl : LessS s s1) (h : AW P B c Q ⟨⟩ s1) : AW P B c Q ⟨⟩ s := aw_wk (wk_less hl) h
theorem aw_frzO (n t0 : Nat) {el sz : Nat} {d0V : List V} (d0 : List D) {esV : List (List V)} (es : List (List D)) {c : Code} {Q : AQ} {s : St} (hn : lkB s.st n = some (.row el sz d0V esV)) (hes : esV = es.map dV) (ht : lkT s.tm t0 = .mo n)
    (h : AW P B c Q ⟨⟩ ⟨setT t0 (.ow n sz d0 es) s.tm, setB n (.tok el sz es.length) s.st, s.nx⟩) : AW P B c Q ⟨⟩ s := by
  refine aw_weak (fun E a hG => ?_) h
  obtain ⟨E', hw, hG'⟩ := gam_frz (d0 := d0) hn hes hG
  refine ⟨E', hw, hG'.1, ⟨fun t => ?_, hG'.2.defers, hG'.2.size⟩⟩
  show RV E' (lkT (setT t0 (.ow n sz d0 es) s.tm) t) _
  have key : ∀ t, lkT s.tm t = .mo n → RV E' (.ow n sz d0 es) (vOf B a t) := fun t h8 => by
    have := hG'.2.tm t
    rcases lkT_frzT n (.ow n sz d0 es) t s.tm with h9 | ⟨_, h9⟩
    · have h0 : ∀ l : List (Nat × V), lkT l t = .mo n → lkT (frzT n (.ow n sz d0 es) l) t = .ow n sz d0 es := by
        intro l
        induction l with
        | nil => intro h; cases h
        | cons p l ih =>
          obtain ⟨u, x⟩ := p
          intro h
          rw [lkT] at h
          simp only [frzT, lkT]
          by_cases htu : t = u
          · rw [if_pos htu] at h ⊢
            subst h
            simp
          · rw [if_neg htu] at h ⊢
            exact ih h
      have h1 := h0 _ h8
      show RV E' _ _
      have h2 : RV E' (lkT (frzT n (.ow n sz d0 es) s.tm) t) (vOf B a t) := this
      rw [h1] at h2; exact h2
    · have h2 : RV E' (lkT (frzT n (.ow n sz d0 es) s.tm) t) (vOf B a t) := this
      rw [h9] at h2; exact h2
  rw [lkT_setT]
  by_cases h0 : t = t0
  · rw [if_pos h0]; subst h0; exact key t ht
  · rw [if_neg h0]
    have h2 : RV E' (lkT (frzT n (.ow n sz d0 es) s.tm) t) (vOf B a t) := hG'.2.tm t
    rcases lkT_frzT n (.ow n sz d0 es) t s.tm with h9 | ⟨h8, _⟩
    · rw [h9] at h2; exact h2
    · have := key t h8
      rw [h8]
      simp only [RV, RD] at this ⊢
      obtain ⟨h3, a1, c1, hv, _⟩ := this
      exact ⟨h3, a1, _, c1, hv⟩
end
end Go.Proofs.Ytlnkmaejiceloaa

