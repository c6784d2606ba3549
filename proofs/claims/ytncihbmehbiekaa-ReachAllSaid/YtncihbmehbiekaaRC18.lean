import Derived.Test.YtncihbmehbiekaaRC17
import Derived.Test.YtncihbmehbiekaaRows
import Derived.WalkKit
import Derived.ProofKit
import Derived.OpenShut
import Derived.Carry
import Derived.ChangeSlices
import Derived.Test.YtncihbmehbiekaaRC1
import Derived.SizedLaws
import Derived.Test.YtncihbmehbiekaaRC12
import Derived.Test.YtncihbmehbiekaaRC7
import Derived.Test.YtncihbmehbiekaaRC13
namespace Go.Proofs.Ytncihbmehbiekaa
set_option linter.unusedSimpArgs false
set_option linter.unusedVariables false
open Go.RowKit
set_option maxRecDepth 100000
set_option maxHeartbeats 4000000
theorem Spec.args {P : Program} {f : FuncId} {xs ys : List A} {r : Ret} (h : Spec P f ys r) (hs : SubL xs ys) : Spec P f xs r := fun F w us hF ha => h F w us hF (subL_ok hs ha)
def okIb (l : List Int) : Bool := l.all (fun n => decide (-9223372036854775808 ≤ n ∧ n ≤ 9223372036854775807)) && decide (l.length ≤ 140737488351232)
theorem okI_b {l : List Int} (h : okIb l = true) : (∀ n ∈ l, -9223372036854775808 ≤ n ∧ n ≤ 9223372036854775807) ∧ l.length ≤ 140737488351232 := by
  unfold okIb at h
  simp only [Bool.and_eq_true, List.all_eq_true, decide_eq_true_eq] at h
  exact h
def okFb (f : FlowP) : Bool := decide (-9223372036854775808 ≤ f.senders ∧ f.senders ≤ 9223372036854775807) && decide (f.lots.length ≤ 140737488351232) && f.lots.all fun x => okIb x.inn && okIb x.perm
theorem okF_b {f : FlowP} (h : okFb f = true) : OkF f := by
  unfold okFb at h
  simp only [Bool.and_eq_true, List.all_eq_true, decide_eq_true_eq] at h
  exact ⟨h.1.1, h.1.2, fun x hx => ⟨(okI_b (h.2 x hx).1).1, (okI_b (h.2 x hx).2).1, (okI_b (h.2 x hx).1).2, (okI_b (h.2 x hx).2).2⟩⟩
abbrev iL (n : Int) : D := .c (.int .i64 n)
abbrev nilL : D := .c (.slice none 0 0)
abbrev isL (l : List Int) : D := .sl 1 (zD (.int .i64 0)) (l.map fun n => [iL n])
abbrev lotZ : List D := zD (.agg #[.slice none 0 0, .bool false, .slice none 0 0])
abbrev xN (n : Int) : A := .agg [iL n, nilL]
abbrev F3 : FlowP := ⟨3, [⟨[0, 1], false, []⟩]⟩
abbrev K2 : FlowP := ⟨2, [⟨[1, 0], true, [0, 1]⟩]⟩
theorem sub_is (l : List Int) : SubD (isL l) (.sl 1 (intD 0) (l.map intD)) := SubD.refl _
theorem sub_nil {sz : Nat} {d0 : List D} : SubD nilL (.sl sz d0 []) := SubD.of _ _ rfl
theorem sN (n : Int) : Sub (xN n) (.agg (flowD ⟨n, []⟩)) := Sub.aggL ⟨SubD.refl _, sub_nil, trivial⟩
abbrev x3 : A := .agg [iL 3, .sl 3 lotZ [[isL [0, 1], .c (.bool false), nilL]]]
theorem s3 : Sub x3 (.agg (flowD F3)) := Sub.aggL ⟨SubD.refl _, SubD.sl ⟨⟨sub_is _, SubD.refl _, sub_nil, trivial⟩, trivial⟩, trivial⟩
abbrev xK : A := .agg [iL 2, .sl 3 lotZ [[isL [1, 0], .c (.bool true), isL [0, 1]]]]
theorem sK : Sub xK (.agg (flowD K2)) := Sub.aggL ⟨SubD.refl _, SubD.sl ⟨⟨sub_is _, SubD.refl _, sub_is _, trivial⟩, trivial⟩, trivial⟩
abbrev xM : A := .one (.sl 1 (zD (.slice none 0 0)) [[isL [3, 4]], [isL [3, 4]], [isL [2]]])
theorem sM : Sub xM (aIss [[3, 4], [3, 4], [2]]) := fun F w v hv => SubD.sl (sz := 1) (d0 := zD (.slice none 0 0)) (d1 := [.sl 1 (intD 0) []]) (es := [[isL [3, 4]], [isL [3, 4]], [isL [2]]]) (fs := [[.sl 1 (intD 0) ([3, 4].map intD)], [.sl 1 (intD 0) ([3, 4].map intD)], [.sl 1 (intD 0) ([2].map intD)]]) ⟨⟨sub_is _, trivial⟩, ⟨sub_is _, trivial⟩, ⟨sub_is _, trivial⟩, trivial⟩ F w v hv
theorem wthree_spec : Spec Try.prog 30 [] (.r1 (.agg (flowD F3))) := by
  refine spec_of T_ok Try.func30 (by dsimp only [Try.f30]) rfl rfl (by simp) fun w F => ?_
  repeat' (first
    | (with_reducible refine aw_seq ?_)
    | ((with_reducible refine twoG_intro ?_ ?_) <;> intro hTw <;> first | (exact Bool.noConfusion hTw) | ((try simp only [hTw, Bool.not_true, Bool.not_false, Bool.true_and, Bool.false_and, Bool.and_true, Bool.and_false, Bool.true_or, Bool.false_or, Bool.or_true, Bool.or_false]); (first | (guard_hyp hTw : true = true; clear hTw) | (guard_hyp hTw : false = false; clear hTw) | (revert hTw; intro _))))
    | ((with_reducible refine two_intro ?_ ?_) <;> intro hTw <;> first | (exact Bool.noConfusion hTw) | ((first | (guard_hyp hTw : true = true; clear hTw) | (guard_hyp hTw : false = false; clear hTw) | (revert hTw; intro _))))
    | ((with_reducible refine And.intro ?_ ?_); (focus (first | omega | rfl | decide | grind)))
    | (with_reducible refine aw_block ?_)
    | (with_reducible refine aw_scope ?_)
    | ((first
        | ((with_reducible refine aw_regionA T_ok ?_ ?_); (focus kernel_rfl))
        | ((with_reducible refine aw_drawnA T_ok ?_ ?_ ?_ ?_); (focus kernel_rfl); (focus kernel_rfl); (focus (decide +kernel)))
        | ((with_reducible refine aw_drawnF T_ok ?_ ?_ ?_ ?_); (focus kernel_rfl); (focus kernel_rfl); (focus (decide +kernel)))
        | (with_reducible refine aw_label ?_)
        | ((with_reducible refine aw_rfM ?_ ?_); (focus kernel_rfl))
        | (with_reducible refine aw_skip ?_)
        | (with_reducible refine aw_exit ?_)
        | ((with_reducible refine aw_condM ?_ ?_); (focus kernel_rfl))
        | (with_reducible refine aw_ret ?_)
      ); simp only [↓avP, avQ, if_true, if_false, forall_const, beq_self_eq_true, eq_self, ne_eq, implies_true, reduceIte, Nat.reduceEqDiff, Nat.reduceAdd, Nat.reduceSub, Int.reduceToNat, Nat.reduceLeDiff, Nat.reduceLT, reduceCtorEq, Int.reduceEq, retQ, retL, resV, RetV, RetOk, SubL, intD_B, lotD_B, flowD_B, snocI, snocL, ty_3, ty_27, ty_4, ty_24, ty_40, ty_22, ty_31, issD_get]; try simp (disch := omega) only [av_w, av_t1, av_tp, Int.toNat_natCast]))
  exact s3
theorem ex_ends {x : A} {f : FlowP} {s : Int} (l : List Int) (e : Int) (hx : Sub x (.agg (flowD f))) (hf : okFb f = true) (h1 : endR f s = l) (h2 : errE f s = e) : Spec Try.prog 12 [x, aI s] (.rt [aIs l, aI e]) := by
  subst h1 h2
  exact (wends_spec f s (okF_b hf)).args ⟨hx, Sub.refl _, trivial⟩
theorem ex_snd {x : A} {f : FlowP} {s : Int} (l : List Int) (e : Int) (hx : Sub x (.agg (flowD f))) (hf : okFb f = true) (h1 : sndR f s = l) (h2 : errS f s = e) : Spec Try.prog 14 [x, aI s] (.rt [aIs l, aI e]) := by
  subst h1 h2
  exact (wsenders_spec f s (okF_b hf)).args ⟨hx, Sub.refl _, trivial⟩
theorem ex_mat {x : A} {f : FlowP} (l : List (List Int)) (e : Int) (hx : Sub x (.agg (flowD f))) (hf : okFb f = true) (h1 : matR f = l) (h2 : checkF f = e) : Spec Try.prog 16 [x] (.rt [aIss l, aI e]) := by
  subst h1 h2
  exact (wmatrix_spec f (okF_b hf)).args ⟨hx, trivial⟩
theorem wsane_spec : Spec Try.prog 10 [] (.r1 (aB true)) := by
  refine spec_of T_ok Try.func10 (by dsimp only [Try.f10]) rfl rfl (by simp) fun w F => ?_
  have a1 := ex_ends (s := 1) [1] 0 (sN 2) (by decide +kernel) (by decide +kernel) (by decide +kernel)
  have a2 := ex_ends (s := 0) [] 1 (sN 0) (by decide +kernel) (by decide +kernel) (by decide +kernel)
  have a3 := ex_ends (s := 0) [3, 4] 0 (Sub.refl (.agg (flowD F3))) (by decide +kernel) (by decide +kernel) (by decide +kernel)
  have a4 := ex_snd (s := 3) [0, 1] 0 (Sub.refl (.agg (flowD F3))) (by decide +kernel) (by decide +kernel) (by decide +kernel)
  have a5 := ex_snd (s := 0) [] 1 (Sub.refl (.agg (flowD F3))) (by decide +kernel) (by decide +kernel) (by decide +kernel)
  have a6 := ex_mat [[3, 4], [3, 4], [2]] 0 (Sub.refl (.agg (flowD F3))) (by decide +kernel) (by decide +kernel) (by decide +kernel)
  have a7 := ex_ends (s := 0) [3] 0 sK (by decide +kernel) (by decide +kernel) (by decide +kernel)
  have a8 := ex_mat [] 250 (sN (-1)) (by decide +kernel) (by decide +kernel) (by decide +kernel)
  have e1 := sameInts_spec [1] [1] (by decide)
  have e2 := sameInts_spec [3, 4] [3, 4] (by decide)
  have e3 := sameInts_spec [0, 1] [0, 1] (by decide)
  have e4 := sameInts_spec [3] [3] (by decide)
  have e5 := qwsame_spec [[3, 4], [3, 4], [2]] [[3, 4], [3, 4], [2]] (by intro k; match k with | 0 => decide | 1 => decide | 2 => decide | k + 3 => simp) (by decide) (by decide)
  have e6 := e5.args (xs := [aIss [[3, 4], [3, 4], [2]], xM]) ⟨Sub.refl _, sM, trivial⟩
  repeat' (first
    | (with_reducible refine aw_seq ?_)
    | ((with_reducible refine twoG_intro ?_ ?_) <;> intro hTw <;> first | (exact Bool.noConfusion hTw) | ((try simp only [hTw, Bool.not_true, Bool.not_false, Bool.true_and, Bool.false_and, Bool.and_true, Bool.and_false, Bool.true_or, Bool.false_or, Bool.or_true, Bool.or_false]); (first | (guard_hyp hTw : true = true; clear hTw) | (guard_hyp hTw : false = false; clear hTw) | (revert hTw; intro _))))
    | ((with_reducible refine two_intro ?_ ?_) <;> intro hTw <;> first | (exact Bool.noConfusion hTw) | ((first | (guard_hyp hTw : true = true; clear hTw) | (guard_hyp hTw : false = false; clear hTw) | (revert hTw; intro _))))
    | ((with_reducible refine And.intro ?_ ?_); (focus (first | omega | rfl | decide | grind)))
    | (with_reducible refine aw_block ?_)
    | (with_reducible refine aw_scope ?_)
    | ((first
        | ((with_reducible refine aw_regionA T_ok ?_ ?_); (focus kernel_rfl))
        | ((with_reducible refine aw_drawnA T_ok ?_ ?_ ?_ ?_); (focus kernel_rfl); (focus kernel_rfl); (focus (decide +kernel)))
        | ((with_reducible refine aw_drawnF T_ok ?_ ?_ ?_ ?_); (focus kernel_rfl); (focus kernel_rfl); (focus (decide +kernel)))
        | ((with_reducible refine callK_intro (wthree_spec) (by with_unfolding_all rfl) ?_ ?_); (focus kernel_rfl))
        | ((with_reducible refine callI_spec (wthree_spec) (by with_unfolding_all rfl) ?_ ?_ ?_); (focus kernel_rfl); (focus kernel_rfl))
        | ((with_reducible refine callK_intro (a1) (by with_unfolding_all rfl) ?_ ?_); (focus kernel_rfl))
        | ((with_reducible refine callI_spec (a1) (by with_unfolding_all rfl) ?_ ?_ ?_); (focus kernel_rfl); (focus kernel_rfl))
        | ((with_reducible refine callK_intro (a2) (by with_unfolding_all rfl) ?_ ?_); (focus kernel_rfl))
        | ((with_reducible refine callI_spec (a2) (by with_unfolding_all rfl) ?_ ?_ ?_); (focus kernel_rfl); (focus kernel_rfl))
        | ((with_reducible refine callK_intro (a3) (by with_unfolding_all rfl) ?_ ?_); (focus kernel_rfl))
        | ((with_reducible refine callI_spec (a3) (by with_unfolding_all rfl) ?_ ?_ ?_); (focus kernel_rfl); (focus kernel_rfl))
        | ((with_reducible refine callK_intro (a4) (by with_unfolding_all rfl) ?_ ?_); (focus kernel_rfl))
        | ((with_reducible refine callI_spec (a4) (by with_unfolding_all rfl) ?_ ?_ ?_); (focus kernel_rfl); (focus kernel_rfl))
        | ((with_reducible refine callK_intro (a5) (by with_unfolding_all rfl) ?_ ?_); (focus kernel_rfl))
        | ((with_reducible refine callI_spec (a5) (by with_unfolding_all rfl) ?_ ?_ ?_); (focus kernel_rfl); (focus kernel_rfl))
        | ((with_reducible refine callK_intro (a6) (by with_unfolding_all rfl) ?_ ?_); (focus kernel_rfl))
        | ((with_reducible refine callI_spec (a6) (by with_unfolding_all rfl) ?_ ?_ ?_); (focus kernel_rfl); (focus kernel_rfl))
        | ((with_reducible refine callK_intro (a7) (by with_unfolding_all rfl) ?_ ?_); (focus kernel_rfl))
        | ((with_reducible refine callI_spec (a7) (by with_unfolding_all rfl) ?_ ?_ ?_); (focus kernel_rfl); (focus kernel_rfl))
        | ((with_reducible refine callK_intro (a8) (by with_unfolding_all rfl) ?_ ?_); (focus kernel_rfl))
        | ((with_reducible refine callI_spec (a8) (by with_unfolding_all rfl) ?_ ?_ ?_); (focus kernel_rfl); (focus kernel_rfl))
        | ((with_reducible refine callK_intro (e1) (by with_unfolding_all rfl) ?_ ?_); (focus kernel_rfl))
        | ((with_reducible refine callI_spec (e1) (by with_unfolding_all rfl) ?_ ?_ ?_); (focus kernel_rfl); (focus kernel_rfl))
        | ((with_reducible refine callK_intro (e2) (by with_unfolding_all rfl) ?_ ?_); (focus kernel_rfl))
        | ((with_reducible refine callI_spec (e2) (by with_unfolding_all rfl) ?_ ?_ ?_); (focus kernel_rfl); (focus kernel_rfl))
        | ((with_reducible refine callK_intro (e3) (by with_unfolding_all rfl) ?_ ?_); (focus kernel_rfl))
        | ((with_reducible refine callI_spec (e3) (by with_unfolding_all rfl) ?_ ?_ ?_); (focus kernel_rfl); (focus kernel_rfl))
        | ((with_reducible refine callK_intro (e4) (by with_unfolding_all rfl) ?_ ?_); (focus kernel_rfl))
        | ((with_reducible refine callI_spec (e4) (by with_unfolding_all rfl) ?_ ?_ ?_); (focus kernel_rfl); (focus kernel_rfl))
        | ((with_reducible refine callK_intro (e6) (by with_unfolding_all rfl) ?_ ?_); (focus kernel_rfl))
        | ((with_reducible refine callI_spec (e6) (by with_unfolding_all rfl) ?_ ?_ ?_); (focus kernel_rfl); (focus kernel_rfl))
        | (with_reducible refine aw_label ?_)
        | ((with_reducible refine aw_rfM ?_ ?_); (focus kernel_rfl))
        | (with_reducible refine aw_skip ?_)
        | (with_reducible refine aw_exit ?_)
        | ((with_reducible refine aw_condM ?_ ?_); (focus kernel_rfl))
        | (with_reducible refine aw_ret ?_)
      ); simp only [↓avP, avQ, if_true, if_false, forall_const, beq_self_eq_true, eq_self, ne_eq, implies_true, reduceIte, Nat.reduceEqDiff, Nat.reduceAdd, Nat.reduceSub, Int.reduceToNat, Nat.reduceLeDiff, Nat.reduceLT, reduceCtorEq, Int.reduceEq, retQ, retL, resV, RetV, RetOk, SubL, intD_B, lotD_B, flowD_B, snocI, snocL, ty_3, ty_27, ty_4, ty_24, ty_40, ty_22, ty_31, issD_get]; try simp (disch := omega) only [av_w, av_t1, av_tp, Int.toNat_natCast]))
  all_goals exact Sub.of_eq (congrArg aB (by decide))
end Go.Proofs.Ytncihbmehbiekaa


namespace Go.Proofs.Ytncihbmehbiekaa
set_option linter.unusedSimpArgs false
set_option linter.unusedVariables false
open Go.ChangeShapes Go.WideShapes Go.ChangeAt Go.RowKit

theorem trodAll_below {H : Type} {enc : TypeId × Value → H} {P : Program} (hl : laidOutB P = true) {W W' : World} (hb : Below W.heap.size W W') {sp : Nat → Bool} :
    ∀ {ts : List TypeId} {vs : List Value} {ds : List (DataW H)} {ps : List MemPlace}, (∀ t ∈ ts, P.readableRec t = true ∧ t < P.types.size) → (∀ x ∈ ps, x.block < W.heap.size) → (∀ x ∈ ps, sp x.block = true) →
      DataW.TrodAll enc P W 0 (fun _ => true) true ts vs ds ps → DataW.TrodAll enc P W' 0 sp true ts vs ds ps
  | [], _, _, _, _, _, _, h => by
    obtain ⟨rfl, rfl, rfl⟩ := trodAll_nil h
    exact rfl
  | t :: ts, _, _, _, hr, hlt, hsp, h => by
    obtain ⟨v, vs1, d, ds1, a, b, rfl, rfl, rfl, h1, h2⟩ := trodAll_cons h
    refine ⟨a, b, ?_, trodAll_below hl hb (fun u hu => hr u (List.mem_cons_of_mem _ hu)) (fun x hx => hlt x (by simp [hx])) (fun x hx => hsp x (by simp [hx])) h2, rfl⟩
    exact WideElems.Trod_stays hl (hr t (by simp)).1 (hr t (by simp)).2 h1 (fun x hx => hb.same (hlt x (by simp [hx]))) (fun x hx => hsp x (by simp [hx]))

/-- the post of a law that answers true and has only read -/
theorem post_read {H : Type} {enc : TypeId × Value → H} {P : Program} {f : Func} {s : ChangeSpec} {fresh handsOn again : Bool} {W W' : World} {args : Array Value} {ds : List (DataW H)} {before : List MemPlace} {tb : TypeId}
    (hl : laidOutB P = true) (hs : s.vars = []) (hr : f.resultTypes = #[tb]) (htb : P.underlying tb = some .bool)
    (hts : (f.params.toList.all fun t => P.readableRec t && decide (t < P.types.size)) = true)
    (hfn : s.fn H (ds ++ []) = { results := [.lit (.bool true)], args := ds })
    (hW : DataW.Whole enc P f.params.toList s.vars false W args.toList ds [] before) (hb : Below W.heap.size W W') :
    s.post enc P f false fresh handsOn again W args (.bool true) W' := by
  have hW0 := hW
  have hlt : ∀ p ∈ before, p.block < W.heap.size := fun p hp => hW.lt p hp
  have hold : ∀ p ∈ before, (fun b => decide (b < W.heap.size)) p.block = true := fun p hp => by simpa using hlt p hp
  rw [hs] at hW
  obtain ⟨p, q, hA, hV, rfl, hz, hn⟩ := hW
  obtain ⟨_, rfl⟩ := trodVars_none hV
  rw [List.append_nil] at hlt hold hz hn
  have hts' : ∀ t ∈ f.params.toList, P.readableRec t = true ∧ t < P.types.size := fun t ht => by
    have := List.all_eq_true.1 hts t ht
    simpa using this
  have hargs : ∀ sp : Nat → Bool, (∀ x ∈ p, sp x.block = true) → DataW.TrodAll enc P W' 0 sp true f.params.toList args.toList (s.fn H (ds ++ [])).args p := fun sp hsp => by
    rw [hfn]
    exact trodAll_below hl hb hts' hlt hsp hA
  have hres : ∀ (b : Nat) (sp : Nat → Bool) (hd : Bool), DataW.TrodAll enc P W' b sp hd f.resultTypes.toList ((Value.bool true).resultList f.resultTypes.size) (s.fn H (ds ++ [])).results [] := fun b sp hd => by
    rw [hfn, hr]
    exact trodAll_cons_mk (shut_bool htb _) trodAll_mk0
  have hvars : ∀ sp : Nat → Bool, DataW.TrodVars enc P W' sp s.vars (s.fn H (ds ++ [])).vars [] := fun sp => by
    rw [hfn, hs]
    exact rfl
  have hok : ∀ (j : Nat) (t : TypeId) (r : Value), f.resultTypes[j]? = some t → ((Value.bool true).resultList f.resultTypes.size)[j]? = some r → Value.okWide P W' .any 0 t r :=
    ok_one hr rfl (okWide_bool_mk htb _)
  refine ⟨ds, [], p ++ [], [], p, [], hW0, hres _ _ _, hargs _ hold, hvars _, World.keptBut_mono (fun x hx => ⟨hx, ?_⟩) (hb.frame (· ∈ p ++ [])), fun _ => ?_⟩
  · simpa using hx
  · refine ⟨hok, _, _, ([] ++ p) ++ [], ⟨[] ++ p, [], trodAll_append (hargs _ (fun _ _ => rfl)) (hres _ _ _), hvars _, rfl, ?_, ?_⟩, ?_⟩
    · intro b off hp
      have hp' : MemPlace.cell b off ∈ p := by simpa using hp
      rw [hb.frozen (p := ⟨b, off, none⟩) (hlt _ hp')]
      exact hz b off hp'
    · intro ha
      cases ha
    · intro x hx _
      simpa using hx

end Go.Proofs.Ytncihbmehbiekaa


namespace Go.Proofs.Ytncihbmehbiekaa
set_option linter.unusedSimpArgs false
open Go.ChangeShapes Go.WideShapes Go.ChangeAt Go.RowKit
set_option linter.unusedVariables false

def Opens {α : Type} (P : Program) (t : TypeId) (R : RepT α) : Prop :=
  ∀ {H : Type} {enc : TypeId × Value → H} {W : World} {n : Nat} {cs : List Value} {x : DataW H × List MemPlace}, DataW.trod enc P W 0 (fun _ => true) true n t cs = some x → (∀ k ∈ x.1.weights P t, k ≤ reachBytes) → ∃ y : α, R (Now W) W y cs
section
variable {α β : Type} {P : Program} {t e : TypeId} {sz : Nat} {R : RepT α}
theorem opens_int {k : IntKind} (hu : P.underlying t = some (.int k)) : Opens P t (RI k) := fun h _ => by
  obtain ⟨n, e, _, hw⟩ := DataW.trod_int hu h
  exact ⟨n, e, hw⟩
theorem opens_bool (hu : P.underlying t = some .bool) : Opens P t RB := fun h _ => by
  obtain ⟨b, e, _⟩ := DataW.trod_bool hu h
  exact ⟨b, e⟩
theorem mapM_get {f : Nat → Option Value} : ∀ {l : List Nat} {cs : List Value}, l.mapM f = some cs → cs.length = l.length ∧ ∀ (j : Nat) (u : Value), cs[j]? = some u → ∃ i : Nat, l[j]? = some i ∧ f i = some u
  | [], cs, h => by
    simp at h
    subst h
    exact ⟨rfl, fun j u h => by simp at h⟩
  | i :: l, cs, h => by
    rw [List.mapM_cons] at h
    cases h1 : f i with
    | none => simp [h1] at h
    | some u =>
      cases h2 : l.mapM f with
      | none => simp [h1, h2] at h
      | some us =>
        simp [h1, h2] at h
        subst h
        obtain ⟨hl, hg⟩ := mapM_get h2
        refine ⟨by simp [hl], fun j v hv => ?_⟩
        cases j with
        | zero => simp at hv; subst hv; exact ⟨i, rfl, h1⟩
        | succ j => simpa using hg j v (by simpa using hv)
theorem cells_get {w : World} {a : Addr} {n : Nat} {cs : List Value} (h : w.cells? 0 a n = some cs) : cs.length = n ∧ ∀ (j : Nat) (u : Value), cs[j]? = some u → w.cell? (a.add j) = some u := by
  unfold World.cells? at h
  rw [if_pos (Nat.zero_le _)] at h
  obtain ⟨hl, hg⟩ := mapM_get h
  refine ⟨by simpa using hl, fun j u hu => ?_⟩
  obtain ⟨i, hi, hf⟩ := hg j u hu
  have : i = j := by
    have hj : j < n := by have := (List.getElem?_eq_some_iff.1 hu).1; rw [hl] at this; simpa using this
    rw [List.getElem?_range hj] at hi
    exact (Option.some.inj hi).symm
  rw [this] at hf
  exact hf
theorem weights_all {H : Type} {d : DataW H} {k : Nat} : ∀ {l : List (DataW H)}, d ∈ l → k ∈ d.weights P e → k ∈ DataW.weightsAll P e l
  | [], h, _ => by cases h
  | x :: l, h, hk => by
    simp only [DataW.weightsAll, List.mem_append]
    rcases List.mem_cons.1 h with rfl | h
    · exact .inl hk
    · exact .inr (weights_all h hk)
theorem pick_list {Q : Nat → α → Prop} : ∀ n, (∀ i, i < n → ∃ y, Q i y) → ∃ l : List α, l.length = n ∧ ∀ i (h : i < l.length), Q i l[i]
  | 0, _ => ⟨[], rfl, fun i h => by cases h⟩
  | n + 1, h => by
    obtain ⟨l, hl, hq⟩ := pick_list n (fun i hi => h i (by omega))
    obtain ⟨y, hy⟩ := h n (by omega)
    refine ⟨l ++ [y], by simp [hl], fun i hi => ?_⟩
    by_cases hi' : i < l.length
    · rw [List.getElem_append_left hi']; exact hq i hi'
    · have : i = l.length := by simp at hi; omega
      subst this
      simp [hl, hy]
theorem opens_slice (g : Good sz R) (ho : Opens P e R) (hu : P.underlying t = some (.slice e)) (hc : P.cellsOf e = sz) (hpos : 0 < sz) (hb : 1 ≤ P.bytesOf e) : Opens P t (RS sz R) := by
  intro H enc W n cs x h hw
  rcases DataW.trod_slice hu h with ⟨rfl, _⟩ | ⟨a, len, cap, elems, rest, m, rfl, rfl, rfl, _, hl, _, hlen, hel, _, _⟩
  · exact ⟨[], none, 0, rfl, Nat.le_refl _, by simp, RRow.nil _⟩
  · simp only [DataW.weights, hu] at hw
    have hsz := hw _ (List.mem_cons_self ..)
    rw [List.length_map, List.length_map] at hsz
    have hbig : elems.length ≤ 140737488351232 := by
      unfold reachBytes at hsz
      have := Nat.mul_le_mul_left (elems.length + rest.length) hb
      omega
    rw [hc] at hel
    by_cases hl0 : len = 0
    · subst hl0
      exact ⟨[], some a, cap, rfl, by simp, by simp, RRow.nil _⟩
    have hs : a.spot = none := by
      have h0 := hel 0 (by omega)
      rw [List.getElem?_eq_getElem (by omega)] at h0
      cases hcs : W.cells? 0 (a.add (0 * sz)) sz with
      | none => rw [hcs] at h0; cases h0
      | some cs =>
        obtain ⟨hl2, hg⟩ := cells_get hcs
        have h9 := World.cell?_spot (hg 0 cs[0] (by simp))
        simpa [Addr.add] using h9
    obtain ⟨b, off, spot⟩ := a
    subst hs
    have key : ∀ i, i < len → ∃ y : α, ∃ cs, Now W b ∧ R (Now W) W y cs ∧ ∀ j u, cs[j]? = some u → W.cell? ⟨b, off + i * sz + j, none⟩ = some u := by
      intro i hi
      have h0 := hel i hi
      have he : elems[i]? = some (elems[i]'(by omega)) := List.getElem?_eq_getElem (by omega)
      rw [he] at h0
      cases hcs : W.cells? 0 (Addr.add ⟨b, off, none⟩ (i * sz)) sz with
      | none => rw [hcs] at h0; cases h0
      | some cs =>
        rw [hcs, Option.bind_some] at h0
        obtain ⟨y, hy⟩ := ho h0 (fun k hk => hw k (by
          refine List.mem_cons_of_mem _ (List.mem_append.2 (.inl ?_))
          exact weights_all (List.mem_map.2 ⟨_, List.getElem_mem (by omega), rfl⟩) hk))
        obtain ⟨hl2, hg⟩ := cells_get hcs
        have hc0 := hg 0 cs[0] (by simp)
        refine ⟨y, cs, ?_, hy, fun j u hu => ?_⟩
        · have := World.block_lt_of_cell? _ _ hc0
          rw [add_plain, add_plain] at this
          exact this
        · have := hg j u hu
          rw [add_plain, add_plain] at this
          exact this
    obtain ⟨l, hll, hq⟩ := pick_list len key
    refine ⟨l, some ⟨b, off, none⟩, cap, by rw [hll], by rw [hll]; exact hl, by rw [hll, ← hlen]; exact hbig, fun i hi => ?_⟩
    obtain ⟨cs, h1, h2, h3⟩ := hq i hi
    exact ⟨b, off, cs, rfl, h1, h2, h3⟩

/-- a struct's fields from the one at offset o on -/
def OpensL {γ : Type} (P : Program) (l : List Field) (o : Nat) (T : RepT γ) : Prop :=
  ∀ {H : Type} {enc : TypeId × Value → H} {W : World} {n : Nat} {cs : List Value} {xs : List (DataW H × List MemPlace)}, xs.length = l.length → (cs.length + o = (l.map fun f => P.cellsOf f.type).foldl (· + ·) o) →
    (∀ (i : Nat) (f : Field), l[i]? = some f → o ≤ f.offset ∧ DataW.trod enc P W 0 (fun _ => true) true n f.type ((cs.drop (f.offset - o)).take (P.cellsOf f.type)) = xs[i]?) →
    (∀ (i : Nat) (f : Field) (x : DataW H × List MemPlace), l[i]? = some f → xs[i]? = some x → ∀ k ∈ x.1.weights P f.type, k ≤ reachBytes) → ∃ y : γ, T (Now W) W y cs
def RNil : RepT Unit := fun _ _ _ cs => cs = []
theorem opensL_nil {o : Nat} : OpensL P [] o RNil := fun hx hl _ _ => by
  simp at hl
  exact ⟨(), hl⟩
theorem foldl_add (l : List Nat) (o : Nat) : l.foldl (· + ·) o = o + l.foldl (· + ·) 0 := by
  induction l generalizing o with
  | nil => simp
  | cons x l ih => rw [List.foldl_cons, List.foldl_cons, ih (o + x), ih (0 + x)]; omega
theorem opensL_cons {f : Field} {l : List Field} {o s1 : Nat} {S : RepT β} (g : Good s1 R) (ho : Opens P f.type R) (hs : P.cellsOf f.type = s1) (hof : f.offset = o) (hall : ∀ f' ∈ l, o + s1 ≤ f'.offset) (hl : OpensL P l (o + s1) S) : OpensL P (f :: l) o (RP R S) := by
  intro H enc W n cs xs hx hlen hel hw
  rw [List.map_cons, List.foldl_cons, foldl_add, hs] at hlen
  match xs, hx with
  | x :: xs, hx =>
    have h0 := (hel 0 f rfl).2
    rw [hof, Nat.sub_self, List.drop_zero, hs] at h0
    obtain ⟨y, hy⟩ := ho h0 (hw 0 f x rfl rfl)
    obtain ⟨z, hz⟩ := hl (cs := cs.drop s1) (xs := xs) (n := n) (enc := enc) (by simpa using hx) (by rw [List.length_drop, foldl_add]; omega) (fun i f' hf => by
      have h1 := hel (i + 1) f' (by simpa using hf)
      have h2 := hall f' (List.mem_of_getElem? hf)
      refine ⟨h2, ?_⟩
      have h3 := h1.2
      rw [List.drop_drop, show s1 + (f'.offset - (o + s1)) = f'.offset - o by omega]
      simpa using h3) (fun i f' x' hf hx' => hw (i + 1) f' x' (by simpa using hf) (by simpa using hx'))
    exact ⟨(y, z), cs.take s1, cs.drop s1, (List.take_append_drop ..).symm, hy, hz⟩
theorem opens_struct {fs : Array Field} {γ : Type} {T : RepT γ} (hu : P.underlying t = some (.struct fs)) (hc : P.cellsOf t = (fs.toList.map fun f => P.cellsOf f.type).foldl (· + ·) 0) (hT : OpensL P fs.toList 0 T) : Opens P t T := by
  intro H enc W n cs x h hw
  obtain ⟨xs, m, rfl, rfl, hl, hlen, hf⟩ := DataW.trod_struct hu h
  refine hT (xs := xs) (n := m) (enc := enc) (by simpa using hlen) (by rw [hl, hc]; rfl) (fun i f hi => ⟨Nat.zero_le _, by simpa using hf i f (by simpa using hi)⟩) (fun i f x hi hx k hk => hw k ?_)
  simp only [DataW.weights, hu]
  exact DataW.weights_mem_each (by rw [List.getElem?_map, hi]; rfl) (by rw [List.getElem?_map, hx]; rfl) k hk
theorem opens_map {γ : Type} {T : RepT γ} {f : α → γ} (h : Opens P t R) (hm : ∀ {F w x cs}, R F w x cs → T F w (f x) cs) : Opens P t T := fun h1 h2 => by
  obtain ⟨y, hy⟩ := h h1 h2
  exact ⟨f y, hm hy⟩
theorem sized {H : Type} {ts : List TypeId} {ds : List (DataW H)} (h : (DataW.weightsEach P ts ds).all (· ≤ reachBytes) = true) {j : Nat} {t : TypeId} {d : DataW H} (ht : ts[j]? = some t) (hd : ds[j]? = some d) : ∀ k ∈ d.weights P t, k ≤ reachBytes := fun k hk => by
  have := List.all_eq_true.1 h _ (DataW.weights_mem_each ht hd k hk)
  simpa using this
section
variable {H : Type} {enc : TypeId × Value → H} {W : World} {base : Nat} {v : Value} {d : DataW H} {ps : List MemPlace}
theorem open_struct {fs : Array Field} (ho : Opens P t R) (hu : P.underlying t = some (.struct fs)) (hok : Value.okWide P W .any base t v) (h : DataW.Trod enc P W 0 (fun _ => true) true t v d ps) (hw : ∀ k ∈ d.weights P t, k ≤ reachBytes) :
    ∃ x cs, v = .agg cs ∧ R (Now W) W x cs.toList := by
  simp only [Value.okWide, hu] at hok
  obtain ⟨cs, rfl, _⟩ := hok
  obtain ⟨fuel, hf⟩ := h
  obtain ⟨x, hx⟩ := ho hf hw
  exact ⟨x, cs, rfl, hx⟩
end
end
end Go.Proofs.Ytncihbmehbiekaa


namespace Go.Proofs.Ytncihbmehbiekaa
set_option linter.unusedSimpArgs false
open Go.ChangeShapes Go.WideShapes Go.ChangeAt Go.RowKit
set_option linter.unusedVariables false
abbrev ftB (F : Nat → Prop) : Ft := ⟨fun b _ => F b, F⟩
/-- a datum by its data -/
def RE {α : Type} (enc : α → List D) (ok : α → Prop) : RepT α := fun F w x cs => ok x ∧ RDL (ftB F) w (enc x) cs ∧ ∀ u ∈ cs, u.oneCell' = true
section
variable {α β : Type} {P : Program} {t e : TypeId} {sz : Nat} {enc : α → List D} {ok : α → Prop} {enc2 : β → List D} {ok2 : β → Prop} {F : Nat → Prop} {w : World}
theorem good_re (hl : ∀ x, (enc x).length = sz) : Good sz (RE enc ok) :=
  ⟨fun {F F' w w'} hF hk {x cs} h => ⟨h.1, RDL.mono (F := ftB F) (G := ftB F') ⟨fun b o hb => hF b hb, fun b hb => hF b hb⟩ (Kp.of_blocks (F := ftB F) (fun x o hx => hk x hx) (fun x hx => hk x hx)) _ _ h.2.1, h.2.2⟩,
   fun {F w x cs} h => by rw [RDL.len h.2.1, hl], fun {F w x cs} h => h.2.2⟩
theorem ore_int {k : IntKind} (hu : P.underlying t = some (.int k)) : Opens P t (RE (fun n : Int => [.c (.int k n)]) (fun n => (Lit.int k n).wf = true)) :=
  opens_map (f := fun n : Int => n) (opens_int hu) fun {F w x cs} h => ⟨h.2, by rw [h.1]; exact ⟨_, _, rfl, rfl, rfl⟩, by rw [h.1]; simp [Value.oneCell']⟩
theorem ore_bool (hu : P.underlying t = some .bool) : Opens P t (RE (fun b : Bool => [.c (.bool b)]) (fun _ => True)) :=
  opens_map (f := fun b : Bool => b) (opens_bool hu) fun {F w x cs} h => ⟨trivial, by rw [h]; exact ⟨_, _, rfl, rfl, rfl⟩, by rw [h]; simp [Value.oneCell']⟩
theorem rep_re {p : α × β} {cs : List Value} (h : RP (RE enc ok) (RE enc2 ok2) F w p cs) : RE (fun p : α × β => enc p.1 ++ enc2 p.2) (fun p => ok p.1 ∧ ok2 p.2) F w p cs := by
  obtain ⟨c1, c2, rfl, h1, h2⟩ := h
  refine ⟨⟨h1.1, h2.1⟩, RDL.append h1.2.1 h2.2.1, fun u hu => ?_⟩
  rcases List.mem_append.1 hu with hu | hu
  · exact h1.2.2 u hu
  · exact h2.2.2 u hu
theorem opensL_map {γ δ : Type} {l : List Field} {o : Nat} {T : RepT γ} {U : RepT δ} {f : γ → δ} (h : OpensL P l o T) (hm : ∀ {F w x cs}, T F w x cs → U F w (f x) cs) : OpensL P l o U := fun h1 h2 h3 h4 => by
  obtain ⟨y, hy⟩ := h h1 h2 h3 h4
  exact ⟨f y, hm hy⟩
theorem oreL_nil {o : Nat} : OpensL P [] o (RE (fun _ : Unit => []) (fun _ => True)) :=
  opensL_map (f := fun u : Unit => u) opensL_nil fun {F w x cs} h => ⟨trivial, h, by rw [h]; simp⟩
theorem oreL_cons {f : Field} {l : List Field} {o s1 : Nat} (hl1 : ∀ x, (enc x).length = s1) (ho : Opens P f.type (RE enc ok)) (hs : P.cellsOf f.type = s1) (hof : f.offset = o) (hall : ∀ f' ∈ l, o + s1 ≤ f'.offset) (hl : OpensL P l (o + s1) (RE enc2 ok2)) :
    OpensL P (f :: l) o (RE (fun p : α × β => enc p.1 ++ enc2 p.2) (fun p => ok p.1 ∧ ok2 p.2)) :=
  opensL_map (f := fun p : α × β => p) (opensL_cons (good_re hl1) ho hs hof hall hl) fun {F w x cs} h => rep_re h
/-- a field of one cell -/
theorem oreL_1 {f : Field} {l : List Field} {o : Nat} (ho : Opens P f.type (RE enc ok)) (hl1 : ∀ x, (enc x).length = 1) (hs : P.cellsOf f.type = 1) (hof : f.offset = o) (hall : ∀ f' ∈ l, o + 1 ≤ f'.offset) (hl : OpensL P l (o + 1) (RE enc2 ok2)) :
    OpensL P (f :: l) o (RE (fun p : α × β => enc p.1 ++ enc2 p.2) (fun p => ok p.1 ∧ ok2 p.2)) := oreL_cons hl1 ho hs hof hall hl
theorem ore_map {f : α → β} (h : Opens P t (RE enc ok)) (he : ∀ x, enc2 (f x) = enc x) (hok : ∀ x, ok x → ok2 (f x)) : Opens P t (RE enc2 ok2) :=
  opens_map (f := f) h fun {F w x cs} h => ⟨hok _ h.1, by rw [he]; exact h.2.1, h.2.2⟩
theorem rr_of {l : List α} {a : Option Addr} (hl : ∀ x, (enc x).length = sz) (h : RRow sz (RE enc ok) F w l a) : RR (ftB F) w sz a (l.map enc) 0 ∧ ∀ x ∈ l, ok x := by
  have key : ∀ (m : List α) (n : Nat), (∀ i (hi : i < m.length), ∃ b off cs, a = some ⟨b, off, none⟩ ∧ F b ∧ RE enc ok F w m[i] cs ∧ ∀ j u, cs[j]? = some u → w.cell? ⟨b, off + (n + i) * sz + j, none⟩ = some u) → RR (ftB F) w sz a (m.map enc) (n * sz) ∧ ∀ x ∈ m, ok x := by
    intro m
    induction m with
    | nil => intro n _; exact ⟨trivial, by simp⟩
    | cons x m ih =>
      intro n h
      obtain ⟨b, off, cs, h1, h2, h3, h4⟩ := h 0 (by simp)
      have h3' : RE enc ok F w x cs := h3
      obtain ⟨k1, k2⟩ := ih (n + 1) (fun i hi => by
        obtain ⟨b', off', cs', g1, g2, g3, g4⟩ := h (i + 1) (by simpa using hi)
        exact ⟨b', off', cs', g1, g2, g3, fun j u hj => by have := g4 j u hj; rw [show n + 1 + i = n + (i + 1) by omega]; exact this⟩)
      refine ⟨⟨⟨b, off, cs, h1, h3'.2.1, by rw [RDL.len h3'.2.1, hl], h3'.2.2, fun j u hj => ⟨h2, ?_⟩⟩, ?_⟩, ?_⟩
      · have := h4 j u hj
        simpa using this
      · rw [Nat.add_mul, Nat.one_mul] at k1
        exact k1
      · intro y hy
        rcases List.mem_cons.1 hy with rfl | hy
        · exact h3'.1
        · exact k2 y hy
  have := key l 0 (fun i hi => by
    obtain ⟨b, off, cs, h1, h2, h3, h4⟩ := h i hi
    exact ⟨b, off, cs, h1, h2, h3, fun j u hj => by rw [Nat.zero_add]; exact h4 j u hj⟩)
  simpa using this
theorem ore_slice (d0 : List D) (hl : ∀ x, (enc x).length = sz) (ho : Opens P e (RE enc ok)) (hu : P.underlying t = some (.slice e)) (hc : P.cellsOf e = sz) (hpos : 0 < sz) (hb : 1 ≤ P.bytesOf e) :
    Opens P t (RE (fun l : List α => [.sl sz d0 (l.map enc)]) (fun l => l.length ≤ 140737488351232 ∧ ∀ x ∈ l, ok x)) :=
  opens_map (f := fun l : List α => l) (opens_slice (good_re hl) ho hu hc hpos hb) fun {F w x cs} h => by
    obtain ⟨a, cap, rfl, h1, h2, h3⟩ := h
    obtain ⟨k1, k2⟩ := rr_of hl h3
    refine ⟨⟨h2, k2⟩, ⟨_, _, rfl, ⟨a, cap, by rw [List.length_map], by simpa using h1, by simpa using h2, k1⟩, rfl⟩, by simp [Value.oneCell']⟩
/-- as a law's arguments -/
abbrev ftN (w : World) : Ft := ftB (Now w)
theorem ftN_lt (w : World) : (ftN w).lt w := ⟨fun _ _ h => h, fun _ h => h⟩
variable {H : Type} {en : TypeId × Value → H} {W : World} {base : Nat} {v : Value} {d : DataW H} {ps : List MemPlace}
theorem arg_int {k : IntKind} (hu : P.underlying t = some (.int k)) (hok : Value.okWide P W .any base t v) (h : DataW.Trod en P W 0 (fun _ => true) true t v d ps) : ∃ n : Int, (Lit.int k n).wf = true ∧ RA (ftN W) W (.one (.c (.int k n))) v := by
  obtain ⟨z, rfl, rfl, rfl, wz⟩ := open_int hu hok h
  exact ⟨z, wz, rfl⟩
theorem arg_struct {fs : Array Field} (ho : Opens P t (RE enc ok)) (hu : P.underlying t = some (.struct fs)) (hok : Value.okWide P W .any base t v) (h : DataW.Trod en P W 0 (fun _ => true) true t v d ps) (hw : ∀ k ∈ d.weights P t, k ≤ reachBytes) :
    ∃ x, ok x ∧ RA (ftN W) W (.agg (enc x)) v := by
  obtain ⟨x, cs, rfl, h1, h2, h3⟩ := open_struct ho hu hok h hw
  exact ⟨x, h1, cs.toList, by simp, h2, h3⟩
end
end Go.Proofs.Ytncihbmehbiekaa


namespace Go.Proofs.Ytncihbmehbiekaa
set_option linter.unusedSimpArgs false
set_option linter.unusedVariables false
open Go.ChangeShapes Go.WideShapes Go.ChangeAt Go.RowKit
def OkI (l : List Int) : Prop := l.length ≤ 140737488351232 ∧ ∀ x ∈ l, -9223372036854775808 ≤ x ∧ x ≤ 9223372036854775807
theorem wf_int64 {n : Int} (h : (Lit.int .i64 n).wf = true) : -9223372036854775808 ≤ n ∧ n ≤ 9223372036854775807 := by
  exact wf_i64 h
theorem opens_int1 : Opens Try.prog 3 (RE intD (fun n => -9223372036854775808 ≤ n ∧ n ≤ 9223372036854775807)) :=
  ore_map (f := fun n : Int => n) (ore_int Try.underlying3) (by intro x; rfl) (fun x h => wf_int64 h)
theorem opens_ints : Opens Try.prog 27 (RE (fun l : List Int => [.sl 1 (intD 0) (l.map intD)]) OkI) :=
  ore_slice (sz := 1) (intD 0) (by intro x; rfl) opens_int1 Try.underlying27 (by kernel_rfl) (by decide) (Nat.le_of_ble_eq_true (by kernel_rfl))
theorem opens_lot : Opens Try.prog 40 (RE lotD OkL) :=
  ore_map (f := fun x : List Int × Bool × List Int × Unit => (⟨x.1, x.2.1, x.2.2.1⟩ : LotP))
    (opens_struct Try.underlying40 (by kernel_rfl)
      (oreL_1 opens_ints (by intro x; rfl) (by kernel_rfl) rfl (by simp) (oreL_1 (ore_bool Try.underlying4) (by intro x; rfl) (by kernel_rfl) rfl (by simp)
      (oreL_1 opens_ints (by intro x; rfl) (by kernel_rfl) rfl (by simp) oreL_nil))))
    (by intro x; rfl) (by rintro x ⟨h1, h2, h3, _⟩; exact ⟨h1.2, h3.2, h1.1, h3.1⟩)
theorem opens_lots : Opens Try.prog 22 (RE (fun l : List LotP => [.sl 3 (lotD default) (l.map lotD)]) (fun l => l.length ≤ 140737488351232 ∧ ∀ x ∈ l, OkL x)) :=
  ore_slice (sz := 3) (lotD default) (by intro x; rfl) opens_lot Try.underlying22 (by kernel_rfl) (by decide) (Nat.le_of_ble_eq_true (by kernel_rfl))
theorem opens_flow : Opens Try.prog 24 (RE flowD OkF) :=
  ore_map (f := fun x : Int × List LotP × Unit => (⟨x.1, x.2.1⟩ : FlowP))
    (opens_struct Try.underlying24 (by kernel_rfl)
      (oreL_1 (ore_int Try.underlying3) (by intro x; rfl) (by kernel_rfl) rfl (by simp) (oreL_1 opens_lots (by intro x; rfl) (by kernel_rfl) rfl (by simp) oreL_nil)))
    (by intro x; rfl) (by rintro x ⟨h1, h2, _⟩; exact ⟨wf_int64 h1, h2.1, h2.2⟩)
end Go.Proofs.Ytncihbmehbiekaa


namespace Go.Proofs.Ytncihbmehbiekaa
set_option linter.unusedSimpArgs false
set_option linter.unusedVariables false
open Go.RowKit
set_option maxRecDepth 100000
set_option maxHeartbeats 4000000
end Go.Proofs.Ytncihbmehbiekaa


namespace Go.Proofs.Ytncihbmehbiekaa
set_option linter.unusedSimpArgs false
set_option linter.unusedVariables false
open Go.RowKit
set_option maxRecDepth 100000
set_option maxHeartbeats 4000000
theorem validW_check {f : FlowP} (h : validW f = true) : checkF f = 0 ∧ f.senders ≤ 12 ∧ f.lots.length ≤ 12 := by
  unfold validW fewW at h
  simp only [Bool.and_eq_true, Bool.or_eq_true, decide_eq_true_eq, beq_iff_eq] at h
  have := checkF_zero h.2
  exact ⟨h.2, by rcases h.1.2 with h | h <;> omega, h.1.1.2⟩
theorem ne0 {l : List Int} (h : l ≠ []) : ((l.length : Int) == 0) = false := by
  cases l with
  | nil => exact absurd rfl h
  | cons a l => simp; omega
end Go.Proofs.Ytncihbmehbiekaa


namespace Go.Proofs.Ytncihbmehbiekaa
set_option linter.unusedSimpArgs false
set_option linter.unusedVariables false
open Go.RowKit
set_option maxRecDepth 100000
set_option maxHeartbeats 4000000
/-- the flow's Map is known -/
theorem map_known {g : FlowP} (hg : OkF g) (hc : checkF g = 0) (hk : knownF g = true) {N : Nat} (hN : g.senders = N) : Spec Try.prog 23 [.agg (flowD g)] (.rt [aIs (mapAt g N), aI 0]) := by
  have h := fmap_spec g hg
  have e : errM g = 0 := by rw [errM, if_neg (by simpa using hc), if_pos hk]
  rw [e, mapR, if_pos e, hN] at h
  exact h
theorem mapAt_at {g : FlowP} {N s : Nat} (h : s < N) : (mapAt g N).getD s 0 = followK g g.lots.length s := by
  unfold mapAt
  rw [List.getD, List.getElem?_map, List.getElem?_range h]; rfl
theorem ends_ok {f : FlowP} (hf : OkF f) (hc : checkF f = 0) {N s : Nat} (hN : f.senders = N) (h : s < N) : Spec Try.prog 12 [.agg (flowD f), aI s] (.rt [aIs (endS f s), aI 0]) := by
  have e : errE f s = 0 := by rw [errE, if_neg (by simpa using hc), if_neg (by omega)]
  have h1 := wends_spec f (s : Int) hf
  rwa [endR, if_pos e, e] at h1
end Go.Proofs.Ytncihbmehbiekaa


namespace Go.Proofs.Ytncihbmehbiekaa
set_option linter.unusedSimpArgs false
set_option linter.unusedVariables false
open Go.RowKit
set_option maxRecDepth 100000
set_option maxHeartbeats 4000000
end Go.Proofs.Ytncihbmehbiekaa


namespace Go.Proofs.Ytncihbmehbiekaa
set_option linter.unusedSimpArgs false
set_option linter.unusedVariables false
open Go.RowKit
set_option maxRecDepth 100000
set_option maxHeartbeats 4000000
end Go.Proofs.Ytncihbmehbiekaa


namespace Go.Proofs.Ytncihbmehbiekaa
set_option linter.unusedSimpArgs false
set_option linter.unusedVariables false
open Go.RowKit
set_option maxRecDepth 100000
set_option maxHeartbeats 4000000
theorem lotr_get (L : List LotP) (j : Nat) : ((L.map lotD).map dV).getD j (dV (lotD default)) = dV (lotD (L.getD j default)) := by
  simp only [List.getD_eq_getElem?_getD, List.getElem?_map]
  cases L[j]? <;> rfl
theorem lotr_drop (x : LotP) : List.drop 3 (dV (lotD x)) = [] := rfl
theorem fl_t1 (f : FlowP) : List.take 1 (dV (flowD f)) = [vI f.senders] := rfl
theorem fl_d2 (f : FlowP) : List.drop 2 (dV (flowD f)) = [] := rfl
theorem lotr_set (L : List LotP) (k : Nat) (y : LotP) : ((L.map lotD).map dV).set k (dV (lotD y)) = ((L.set k y).map lotD).map dV := by
  rw [List.map_set, List.map_set]
end Go.Proofs.Ytncihbmehbiekaa


namespace Go.Proofs.Ytncihbmehbiekaa
set_option linter.unusedSimpArgs false
set_option linter.unusedVariables false
open Go.ChangeShapes Go.WideShapes Go.ChangeAt Go.RowKit
theorem wf_u8w {n : Int} (h : (Lit.int .u8 n).wf = true) : 0 ≤ n ∧ n ≤ 255 := by simpa [Lit.wf, IntKind.min, IntKind.max, IntKind.signed, IntKind.bits] using h
end Go.Proofs.Ytncihbmehbiekaa


namespace Go.Proofs.Ytncihbmehbiekaa
set_option linter.unusedSimpArgs false
set_option linter.unusedVariables false
open Go.RowKit
section
variable {f : FlowP} {x : LotP}
theorem idx_at {l : List Int} (hn : l.Nodup) {i : Nat} (h : i < l.length) : l.idxOf (l.getD i 0) = i := by
  obtain ⟨j1, j2⟩ := idx_get (getD_mem h)
  exact getD_inj hn j1 h j2
end
end Go.Proofs.Ytncihbmehbiekaa

