import Derived.Test.YtfmefdeldgmhpaaRO1
import Derived.Test.YtfmefdeldgmhpaaRO2
namespace Go.Proofs.Ytfmefdeldgmhpaa
set_option linter.unusedSimpArgs false
set_option linter.unusedVariables false
structure Ent where
  no : Int
  kind : Int
  a : Int
  b : Int
  frm : Int
  til : Int
  known : Int
  gone : Int
  deriving DecidableEq
def Ent.key (x : Ent) : Int × Int := (x.kind, x.a)
def idB (n : Int) : Bool := decide (0 ≤ n) && decide (n ≤ 1048576)
def countsB (day time : Int) (x : Ent) : Bool := decide (x.frm ≤ day) && decide (day < x.til) && decide (x.known ≤ time) && decide (time < x.gone)
def oneB (x : Ent) : Bool := x.kind == 1 || x.kind == 2
def replB (y x : Ent) : Bool := y.key == x.key && oneB x && (decide (x.frm < y.frm) || y.frm == x.frm && decide (x.no < y.no))
/-- the specification: what stands -/
def standRef (day time : Int) (l : List Ent) : List Ent := l.filter (fun x => countsB day time x && !(l.any (fun y => countsB day time y && replB y x)))
abbrev KMap := Int × Int → Option Ent
def KMap.upd (m : KMap) (y : Ent) : KMap := fun κ => if κ = y.key then some y else m κ
def KMap.put (m : KMap) (y : Ent) : KMap := match m y.key with
  | some o => if o.frm ≤ y.frm then m.upd y else m
  | none => m.upd y
/-- the last one of each kind and person -/
def lastE (c : List Ent) : KMap := c.foldl KMap.put (fun _ => none)
/-- the code: what stands -/
def standSrc (day time : Int) (l : List Ent) : List Ent :=
  (l.filter (countsB day time)).filter (fun y => !oneB y || lastE (l.filter (countsB day time)) y.key == some y)
def LastOf (p : List Ent) (m : KMap) : Prop := ∀ κ, match m κ with
  | none => ∀ z ∈ p, z.key ≠ κ
  | some y => y ∈ p ∧ y.key = κ ∧ ∀ z ∈ p, z.key = κ → z.frm < y.frm ∨ (z.frm = y.frm ∧ z.no ≤ y.no)
theorem LastOf.upd {p : List Ent} {m : KMap} {y : Ent} (h : LastOf p m) (hmax : ∀ z ∈ p, z.key = y.key → z.frm < y.frm ∨ (z.frm = y.frm ∧ z.no ≤ y.no)) : LastOf (p ++ [y]) (m.upd y) := by
  intro κ
  unfold KMap.upd
  by_cases hk : κ = y.key
  · subst hk
    rw [if_pos rfl]
    refine ⟨by simp, rfl, fun z hz hzk => ?_⟩
    rcases List.mem_append.1 hz with hz | hz
    · exact hmax z hz hzk
    · rw [List.mem_singleton.1 hz]; exact .inr ⟨rfl, Int.le_refl _⟩
  · rw [if_neg hk]
    have hκ := h κ
    cases hm : m κ with
    | none =>
      rw [hm] at hκ
      intro z hz
      rcases List.mem_append.1 hz with hz | hz
      · exact hκ z hz
      · rw [List.mem_singleton.1 hz]; exact fun e => hk e.symm
    | some o =>
      rw [hm] at hκ
      obtain ⟨h1, h2, h3⟩ := hκ
      refine ⟨List.mem_append_left _ h1, h2, fun z hz hzk => ?_⟩
      rcases List.mem_append.1 hz with hz | hz
      · exact h3 z hz hzk
      · rw [List.mem_singleton.1 hz] at hzk; exact absurd hzk.symm hk
theorem LastOf.put {p : List Ent} {m : KMap} {y : Ent} (h : LastOf p m) (hno : ∀ z ∈ p, z.no < y.no) : LastOf (p ++ [y]) (m.put y) := by
  have hk := h y.key
  unfold KMap.put
  cases hm : m y.key with
  | none =>
    rw [hm] at hk
    exact h.upd (fun z hz hzk => absurd hzk (hk z hz))
  | some o =>
    rw [hm] at hk
    obtain ⟨h1, h2, h3⟩ := hk
    by_cases hf : o.frm ≤ y.frm
    · simp only [hf, if_true]
      exact h.upd (fun z hz hzk => by have a1 := h3 z hz hzk; have a2 := hno z hz; omega)
    · simp only [hf, if_false]
      intro κ
      have hκ := h κ
      cases hm' : m κ with
      | none =>
        rw [hm'] at hκ
        intro z hz
        rcases List.mem_append.1 hz with hz | hz
        · exact hκ z hz
        · rw [List.mem_singleton.1 hz]
          intro e
          rw [← e, hm] at hm'
          cases hm'
      | some u =>
        rw [hm'] at hκ
        obtain ⟨g1, g2, g3⟩ := hκ
        refine ⟨List.mem_append_left _ g1, g2, fun z hz hzk => ?_⟩
        rcases List.mem_append.1 hz with hz | hz
        · exact g3 z hz hzk
        · have e := List.mem_singleton.1 hz
          subst e
          rw [← hzk, hm] at hm'
          cases hm'
          omega
theorem LastOf.fold : ∀ (c p : List Ent) (m : KMap), LastOf p m → (p ++ c).Pairwise (fun x y => x.no < y.no) → LastOf (p ++ c) (c.foldl KMap.put m)
  | [], p, m, h, _ => by simpa using h
  | y :: c, p, m, h, hp => by
    have e : p ++ y :: c = (p ++ [y]) ++ c := by simp
    rw [e] at hp ⊢
    refine LastOf.fold c (p ++ [y]) (m.put y) (h.put (fun z hz => ?_)) hp
    have := (List.pairwise_append.1 hp).1
    exact (List.pairwise_append.1 this).2.2 z hz y (by simp)
theorem lastE_of (c : List Ent) (hp : c.Pairwise (fun x y => x.no < y.no)) : LastOf c (lastE c) := by
  have h := LastOf.fold c [] (fun _ => none) (fun κ z hz => by cases hz) (by simpa using hp)
  simpa [lastE] using h
/-- both ways lead to the same -/
theorem stand_eq (day time : Int) (l : List Ent) (hp : l.Pairwise (fun x y => x.no < y.no)) : standSrc day time l = standRef day time l := by
  unfold standSrc standRef
  rw [List.filter_filter]
  refine List.filter_congr (fun x hx => ?_)
  have hL := lastE_of (l.filter (countsB day time)) (hp.sublist List.filter_sublist)
  generalize lastE (l.filter (countsB day time)) = m at hL
  cases hc : countsB day time x with
  | false => simp
  | true =>
    simp only [Bool.and_true, Bool.true_and]
    have hxc : x ∈ l.filter (countsB day time) := List.mem_filter.2 ⟨hx, hc⟩
    cases ho : oneB x with
    | false =>
      have : l.any (fun y => countsB day time y && replB y x) = false := by
        rw [List.any_eq_false]
        intro y _
        simp [replB, ho]
      rw [this]
      rfl
    | true =>
      have hk := hL x.key
      cases hm : m x.key with
      | none => rw [hm] at hk; exact absurd rfl (hk x hxc)
      | some u =>
        rw [hm] at hk
        obtain ⟨h1, h2, h3⟩ := hk
        obtain ⟨hul, huc⟩ := List.mem_filter.1 h1
        by_cases hux : u = x
        · subst hux
          have : l.any (fun y => countsB day time y && replB y u) = false := by
            rw [List.any_eq_false]
            intro y hy hh
            simp only [Bool.and_eq_true, replB, beq_iff_eq, Bool.or_eq_true, decide_eq_true_eq] at hh
            have := h3 y (List.mem_filter.2 ⟨hy, hh.1⟩) hh.2.1.1
            omega
          rw [this]
          simp
        · have hne : u.no ≠ x.no := fun e => by
            obtain ⟨i, hi, ei⟩ := List.getElem_of_mem hul
            obtain ⟨j, hj, ej⟩ := List.getElem_of_mem hx
            have hp' := List.pairwise_iff_getElem.1 hp
            rcases Nat.lt_trichotomy i j with hij | hij | hij
            · have := hp' i j hi hj hij
              rw [ei, ej] at this
              omega
            · subst hij
              exact hux (ei.symm.trans ej)
            · have := hp' j i hj hi hij
              rw [ei, ej] at this
              omega
          have : l.any (fun y => countsB day time y && replB y x) = true := by
            rw [List.any_eq_true]
            refine ⟨u, hul, ?_⟩
            have := h3 x hxc rfl
            simp only [Bool.and_eq_true, replB, beq_iff_eq, Bool.or_eq_true, decide_eq_true_eq]
            exact ⟨huc, ⟨h2, ho⟩, by omega⟩
          rw [this]
          simp [hux]
end Go.Proofs.Ytfmefdeldgmhpaa


namespace Go.Proofs.Ytfmefdeldgmhpaa
set_option linter.unusedSimpArgs false
set_option linter.unusedVariables false
def spanB (x y : Int) : Bool := decide (0 ≤ x) && decide (x < y) && decide (y ≤ 2097152)
def fitsB (x : Ent) : Bool :=
  if x.kind = 1 then decide (0 ≤ x.b) && decide (x.b < 24) else if x.kind = 2 then !(x.a == x.b) && idB x.b else if x.kind = 3 ∨ x.kind = 4 then x.b == 0 else false
def validE (x : Ent) : Bool := idB x.no && idB x.a && spanB x.frm x.til && spanB x.known x.gone && fitsB x
def goodL : Int → List Ent → Bool
  | _, [] => true
  | last, x :: r => validE x && decide (last < x.no) && goodL x.no r
def checkL (l : List Ent) : Int := if 1024 < l.length then 2 else if goodL (-1) l then 0 else 330
theorem goodL_spec : ∀ (l : List Ent) (last : Int), goodL last l = true → (∀ x ∈ l, last < x.no) ∧ l.Pairwise (fun x y => x.no < y.no) ∧ ∀ x ∈ l, validE x = true
  | [], _, _ => ⟨by simp, List.Pairwise.nil, by simp⟩
  | x :: r, last, h => by
    simp only [goodL, Bool.and_eq_true, decide_eq_true_eq] at h
    obtain ⟨⟨h1, h2⟩, h3⟩ := h
    obtain ⟨g1, g2, g3⟩ := goodL_spec r x.no h3
    refine ⟨fun y hy => ?_, List.pairwise_cons.2 ⟨g1, g2⟩, fun y hy => ?_⟩
    · rcases List.mem_cons.1 hy with rfl | hy
      · exact h2
      · have := g1 y hy; omega
    · rcases List.mem_cons.1 hy with rfl | hy
      · exact h1
      · exact g3 y hy
theorem checkL_ok {l : List Ent} (h : checkL l = 0) : l.length ≤ 1024 ∧ l.Pairwise (fun x y => x.no < y.no) ∧ ∀ x ∈ l, validE x = true := by
  unfold checkL at h
  split at h
  · cases h
  · split at h
    · rename_i h1 h2
      obtain ⟨_, g2, g3⟩ := goodL_spec l (-1) h2
      exact ⟨by omega, g2, g3⟩
    · cases h
end Go.Proofs.Ytfmefdeldgmhpaa


namespace Go.Proofs.Ytfmefdeldgmhpaa
set_option linter.unusedSimpArgs false
set_option linter.unusedVariables false
open Go.RowKit
def entD (x : Ent) : List D := [.c (.int .i64 x.no), .c (.int .i64 x.kind), .c (.int .i64 x.a), .c (.int .i64 x.b), .c (.int .i64 x.frm), .c (.int .i64 x.til), .c (.int .i64 x.known), .c (.int .i64 x.gone)]
theorem entD_len (x : Ent) : (dV (entD x)).length = 8 := rfl
theorem entD_take (x : Ent) : (dV (entD x)).take 8 = dV (entD x) := rfl
theorem entD_ln (x : Ent) : (entD x).length = 8 := rfl
theorem entD_hd (x : Ent) : (dV (entD x)).head? = some (.d (.c (.int .i64 x.no))) := rfl
theorem entD_ic (x : Ent) : icells (dV (entD x)) = some [x.no, x.kind, x.a, x.b, x.frm, x.til, x.known, x.gone] := rfl
theorem entD_d1 (x : Ent) : (dV (entD x)).drop 1 = [.d (.c (.int .i64 x.kind)), .d (.c (.int .i64 x.a)), .d (.c (.int .i64 x.b)), .d (.c (.int .i64 x.frm)), .d (.c (.int .i64 x.til)), .d (.c (.int .i64 x.known)), .d (.c (.int .i64 x.gone))] := rfl
theorem entD_d2 (x : Ent) : (dV (entD x)).drop 2 = [.d (.c (.int .i64 x.a)), .d (.c (.int .i64 x.b)), .d (.c (.int .i64 x.frm)), .d (.c (.int .i64 x.til)), .d (.c (.int .i64 x.known)), .d (.c (.int .i64 x.gone))] := rfl
theorem entD_d3 (x : Ent) : (dV (entD x)).drop 3 = [.d (.c (.int .i64 x.b)), .d (.c (.int .i64 x.frm)), .d (.c (.int .i64 x.til)), .d (.c (.int .i64 x.known)), .d (.c (.int .i64 x.gone))] := rfl
theorem entD_d4 (x : Ent) : (dV (entD x)).drop 4 = [.d (.c (.int .i64 x.frm)), .d (.c (.int .i64 x.til)), .d (.c (.int .i64 x.known)), .d (.c (.int .i64 x.gone))] := rfl
theorem entD_d5 (x : Ent) : (dV (entD x)).drop 5 = [.d (.c (.int .i64 x.til)), .d (.c (.int .i64 x.known)), .d (.c (.int .i64 x.gone))] := rfl
theorem entD_d6 (x : Ent) : (dV (entD x)).drop 6 = [.d (.c (.int .i64 x.known)), .d (.c (.int .i64 x.gone))] := rfl
theorem entD_d7 (x : Ent) : (dV (entD x)).drop 7 = [.d (.c (.int .i64 x.gone))] := rfl
set_option linter.defProp false in
def entD_B := And.intro @entD_len ( And.intro @entD_take ( And.intro @entD_hd ( And.intro @entD_ln ( And.intro @entD_ic ( And.intro @entD_d1 ( And.intro @entD_d2 ( And.intro @entD_d3 ( And.intro @entD_d4 ( And.intro @entD_d5 ( And.intro @entD_d6 (@entD_d7)))))))))))
set_option maxRecDepth 100000
theorem gid_spec (n : Int) : Spec Try.prog 61 [aI n] (.r1 (aB (idB n))) := by
  refine spec_of T_ok Try.func61 (by dsimp only [Try.f61]) rfl rfl (by simp) fun w F => ?_
  refine aw_seq (aw_region T_ok (by kernel_rfl) ?_)
  simp only [↓rwp.eq_def, ↓sop.eq_def, ↓slotK.eq_def, inV, shT, unT, inQ, rfQ, rfEnd, resOf, pickT, setP, ydA, ydQ, rowW, vD, fillV,  ↓gop.eq_def, ↓hop.eq_def, ↓hopH.eq_def, ↓hwp.eq_def, ↓ldV.eq_def, ↓ldK.eq_def, ↓ixK.eq_def, ↓addOff.eq_def, ↓exK.eq_def, ↓notK.eq_def, ↓pickK.eq_def, ↓iop2.eq_def, ↓binK.eq_def, ↓eqop.eq_def, icells, ↓iop.eq_def, ↓cutK.eq_def, ↓lenK.eq_def, ↓lenM.eq_def, tyInt, ↓lookK.eq_def, ↓mpK.eq_def, keyV, allI, fitK, lkM, upM, dlM, kq, ↓cvK.eq_def, ↓mmK.eq_def, ↓biK.eq_def, ↓stK.eq_def, ↓apK.eq_def, ↓apD.eq_def, ↓apM.eq_def, isMo, ↓apS.eq_def, nxt, put, setT, setB, delB, lkT_n, lkT_c, lkB_n, lkB_c, ev, ofC, inT, ofA, ofRet, dV_n, dV_c, getD_enc, toDs_dV, List.head?_cons, List.length_map, Option.toArray_some, Option.toArray_none, Int.toNat_natCast, slOf, TyK.agg, vcells, splice, pickOps, headF, restF, allF, zOf, strip, stripP, gOf, allP, rowV, toDs, toD, toA, toAs, headOps, tailOps, isT, addN, Op.operands, Call.operands, List.map_cons, List.map_nil, List.drop_zero, List.drop_succ_cons, List.take_succ_cons, List.take_zero, List.length_cons, List.length_nil, List.getElem?_cons_zero, List.getElem?_cons_succ, List.getElem?_toArray, Option.bind_some, Option.map_some, Option.map_none, List.append_nil, List.nil_append, List.cons_append, if_true, if_false, reduceIte, Nat.reduceEqDiff, Nat.reduceAdd, Nat.reduceSub, Int.reduceToNat, Nat.reduceLeDiff, Nat.reduceLT, and_false, and_self, Nat.zero_add, Nat.add_zero, reduceCtorEq, Option.getD_some, Option.getD_none, Option.isSome_some, Option.isSome_none, forall_const, true_and, and_true, true_implies, Bool.true_and, Bool.false_and, Bool.and_true, Bool.and_false, Bool.true_or, Bool.false_or, Bool.or_true, Bool.or_false, beq_self_eq_true, zipM, zcells, Value.cells, Value.oneCell', List.toList_toArray, Array.toList_append, Bool.not_not, List.cons.injEq, Int.reduceEq, eq_self, false_and, Bool.not_true, Bool.not_false, ne_eq, not_false_eq_true, imp_self, implies_true, av_bt, av_bf, av_and, av_or, av_nf, av_tt, av_n1, av_n2, av_t1, av_tp, entD_len, entD_take, entD_hd, entD_ln, entD_ic, entD_d1, entD_d2, entD_d3, entD_d4, entD_d5, entD_d6, entD_d7, ty_39, ty_3]
  refine aw_seq (aw_region T_ok (by kernel_rfl) ?_)
  simp only [↓rwp.eq_def, ↓sop.eq_def, ↓slotK.eq_def, inV, shT, unT, inQ, rfQ, rfEnd, resOf, pickT, setP, ydA, ydQ, rowW, vD, fillV,  ↓gop.eq_def, ↓hop.eq_def, ↓hopH.eq_def, ↓hwp.eq_def, ↓ldV.eq_def, ↓ldK.eq_def, ↓ixK.eq_def, ↓addOff.eq_def, ↓exK.eq_def, ↓notK.eq_def, ↓pickK.eq_def, ↓iop2.eq_def, ↓binK.eq_def, ↓eqop.eq_def, icells, ↓iop.eq_def, ↓cutK.eq_def, ↓lenK.eq_def, ↓lenM.eq_def, tyInt, ↓lookK.eq_def, ↓mpK.eq_def, keyV, allI, fitK, lkM, upM, dlM, kq, ↓cvK.eq_def, ↓mmK.eq_def, ↓biK.eq_def, ↓stK.eq_def, ↓apK.eq_def, ↓apD.eq_def, ↓apM.eq_def, isMo, ↓apS.eq_def, nxt, put, setT, setB, delB, lkT_n, lkT_c, lkB_n, lkB_c, ev, ofC, inT, ofA, ofRet, dV_n, dV_c, getD_enc, toDs_dV, List.head?_cons, List.length_map, Option.toArray_some, Option.toArray_none, Int.toNat_natCast, slOf, TyK.agg, vcells, splice, pickOps, headF, restF, allF, zOf, strip, stripP, gOf, allP, rowV, toDs, toD, toA, toAs, headOps, tailOps, isT, addN, Op.operands, Call.operands, List.map_cons, List.map_nil, List.drop_zero, List.drop_succ_cons, List.take_succ_cons, List.take_zero, List.length_cons, List.length_nil, List.getElem?_cons_zero, List.getElem?_cons_succ, List.getElem?_toArray, Option.bind_some, Option.map_some, Option.map_none, List.append_nil, List.nil_append, List.cons_append, if_true, if_false, reduceIte, Nat.reduceEqDiff, Nat.reduceAdd, Nat.reduceSub, Int.reduceToNat, Nat.reduceLeDiff, Nat.reduceLT, and_false, and_self, Nat.zero_add, Nat.add_zero, reduceCtorEq, Option.getD_some, Option.getD_none, Option.isSome_some, Option.isSome_none, forall_const, true_and, and_true, true_implies, Bool.true_and, Bool.false_and, Bool.and_true, Bool.and_false, Bool.true_or, Bool.false_or, Bool.or_true, Bool.or_false, beq_self_eq_true, zipM, zcells, Value.cells, Value.oneCell', List.toList_toArray, Array.toList_append, Bool.not_not, List.cons.injEq, Int.reduceEq, eq_self, false_and, Bool.not_true, Bool.not_false, ne_eq, not_false_eq_true, imp_self, implies_true, av_bt, av_bf, av_and, av_or, av_nf, av_tt, av_n1, av_n2, av_t1, av_tp, entD_len, entD_take, entD_hd, entD_ln, entD_ic, entD_d1, entD_d2, entD_d3, entD_d4, entD_d5, entD_d6, entD_d7, ty_39, ty_3]
  refine aw_ret ?_
  simp only [↓rwp.eq_def, ↓sop.eq_def, ↓slotK.eq_def, inV, shT, unT, inQ, rfQ, rfEnd, resOf, pickT, setP, ydA, ydQ, rowW, vD, fillV,  ↓gop.eq_def, ↓hop.eq_def, ↓hopH.eq_def, ↓hwp.eq_def, ↓ldV.eq_def, ↓ldK.eq_def, ↓ixK.eq_def, ↓addOff.eq_def, ↓exK.eq_def, ↓notK.eq_def, ↓pickK.eq_def, ↓iop2.eq_def, ↓binK.eq_def, ↓eqop.eq_def, icells, ↓iop.eq_def, ↓cutK.eq_def, ↓lenK.eq_def, ↓lenM.eq_def, tyInt, ↓lookK.eq_def, ↓mpK.eq_def, keyV, allI, fitK, lkM, upM, dlM, kq, ↓cvK.eq_def, ↓mmK.eq_def, ↓biK.eq_def, ↓stK.eq_def, ↓apK.eq_def, ↓apD.eq_def, ↓apM.eq_def, isMo, ↓apS.eq_def, nxt, put, setT, setB, delB, lkT_n, lkT_c, lkB_n, lkB_c, ev, ofC, inT, ofA, ofRet, dV_n, dV_c, getD_enc, toDs_dV, List.head?_cons, List.length_map, Option.toArray_some, Option.toArray_none, Int.toNat_natCast, slOf, TyK.agg, vcells, splice, pickOps, headF, restF, allF, zOf, strip, stripP, gOf, allP, rowV, toDs, toD, toA, toAs, headOps, tailOps, isT, addN, Op.operands, Call.operands, List.map_cons, List.map_nil, List.drop_zero, List.drop_succ_cons, List.take_succ_cons, List.take_zero, List.length_cons, List.length_nil, List.getElem?_cons_zero, List.getElem?_cons_succ, List.getElem?_toArray, Option.bind_some, Option.map_some, Option.map_none, List.append_nil, List.nil_append, List.cons_append, if_true, if_false, reduceIte, Nat.reduceEqDiff, Nat.reduceAdd, Nat.reduceSub, Int.reduceToNat, Nat.reduceLeDiff, Nat.reduceLT, and_false, and_self, Nat.zero_add, Nat.add_zero, reduceCtorEq, Option.getD_some, Option.getD_none, Option.isSome_some, Option.isSome_none, forall_const, true_and, and_true, true_implies, Bool.true_and, Bool.false_and, Bool.and_true, Bool.and_false, Bool.true_or, Bool.false_or, Bool.or_true, Bool.or_false, beq_self_eq_true, zipM, zcells, Value.cells, Value.oneCell', List.toList_toArray, Array.toList_append, Bool.not_not, List.cons.injEq, Int.reduceEq, eq_self, false_and, Bool.not_true, Bool.not_false, ne_eq, not_false_eq_true, imp_self, implies_true, av_bt, av_bf, av_and, av_or, av_nf, av_tt, av_n1, av_n2, av_t1, av_tp, retQ, retL, resV, RetV, RetOk, SubL, entD_len, entD_take, entD_hd, entD_ln, entD_ic, entD_d1, entD_d2, entD_d3, entD_d4, entD_d5, entD_d6, entD_d7, ty_39, ty_3]
  exact Sub.of_eq (by simp [idB])
theorem gspan_spec (x y : Int) : Spec Try.prog 62 [aI x, aI y] (.r1 (aB (spanB x y))) := by
  refine spec_of T_ok Try.func62 (by dsimp only [Try.f62]) rfl rfl (by simp) fun w F => ?_
  refine aw_seq (aw_region T_ok (by kernel_rfl) ?_)
  simp only [↓rwp.eq_def, ↓sop.eq_def, ↓slotK.eq_def, inV, shT, unT, inQ, rfQ, rfEnd, resOf, pickT, setP, ydA, ydQ, rowW, vD, fillV,  ↓gop.eq_def, ↓hop.eq_def, ↓hopH.eq_def, ↓hwp.eq_def, ↓ldV.eq_def, ↓ldK.eq_def, ↓ixK.eq_def, ↓addOff.eq_def, ↓exK.eq_def, ↓notK.eq_def, ↓pickK.eq_def, ↓iop2.eq_def, ↓binK.eq_def, ↓eqop.eq_def, icells, ↓iop.eq_def, ↓cutK.eq_def, ↓lenK.eq_def, ↓lenM.eq_def, tyInt, ↓lookK.eq_def, ↓mpK.eq_def, keyV, allI, fitK, lkM, upM, dlM, kq, ↓cvK.eq_def, ↓mmK.eq_def, ↓biK.eq_def, ↓stK.eq_def, ↓apK.eq_def, ↓apD.eq_def, ↓apM.eq_def, isMo, ↓apS.eq_def, nxt, put, setT, setB, delB, lkT_n, lkT_c, lkB_n, lkB_c, ev, ofC, inT, ofA, ofRet, dV_n, dV_c, getD_enc, toDs_dV, List.head?_cons, List.length_map, Option.toArray_some, Option.toArray_none, Int.toNat_natCast, slOf, TyK.agg, vcells, splice, pickOps, headF, restF, allF, zOf, strip, stripP, gOf, allP, rowV, toDs, toD, toA, toAs, headOps, tailOps, isT, addN, Op.operands, Call.operands, List.map_cons, List.map_nil, List.drop_zero, List.drop_succ_cons, List.take_succ_cons, List.take_zero, List.length_cons, List.length_nil, List.getElem?_cons_zero, List.getElem?_cons_succ, List.getElem?_toArray, Option.bind_some, Option.map_some, Option.map_none, List.append_nil, List.nil_append, List.cons_append, if_true, if_false, reduceIte, Nat.reduceEqDiff, Nat.reduceAdd, Nat.reduceSub, Int.reduceToNat, Nat.reduceLeDiff, Nat.reduceLT, and_false, and_self, Nat.zero_add, Nat.add_zero, reduceCtorEq, Option.getD_some, Option.getD_none, Option.isSome_some, Option.isSome_none, forall_const, true_and, and_true, true_implies, Bool.true_and, Bool.false_and, Bool.and_true, Bool.and_false, Bool.true_or, Bool.false_or, Bool.or_true, Bool.or_false, beq_self_eq_true, zipM, zcells, Value.cells, Value.oneCell', List.toList_toArray, Array.toList_append, Bool.not_not, List.cons.injEq, Int.reduceEq, eq_self, false_and, Bool.not_true, Bool.not_false, ne_eq, not_false_eq_true, imp_self, implies_true, av_bt, av_bf, av_and, av_or, av_nf, av_tt, av_n1, av_n2, av_t1, av_tp, entD_len, entD_take, entD_hd, entD_ln, entD_ic, entD_d1, entD_d2, entD_d3, entD_d4, entD_d5, entD_d6, entD_d7, ty_39, ty_3]
  refine aw_seq (aw_region T_ok (by kernel_rfl) ?_)
  simp only [↓rwp.eq_def, ↓sop.eq_def, ↓slotK.eq_def, inV, shT, unT, inQ, rfQ, rfEnd, resOf, pickT, setP, ydA, ydQ, rowW, vD, fillV,  ↓gop.eq_def, ↓hop.eq_def, ↓hopH.eq_def, ↓hwp.eq_def, ↓ldV.eq_def, ↓ldK.eq_def, ↓ixK.eq_def, ↓addOff.eq_def, ↓exK.eq_def, ↓notK.eq_def, ↓pickK.eq_def, ↓iop2.eq_def, ↓binK.eq_def, ↓eqop.eq_def, icells, ↓iop.eq_def, ↓cutK.eq_def, ↓lenK.eq_def, ↓lenM.eq_def, tyInt, ↓lookK.eq_def, ↓mpK.eq_def, keyV, allI, fitK, lkM, upM, dlM, kq, ↓cvK.eq_def, ↓mmK.eq_def, ↓biK.eq_def, ↓stK.eq_def, ↓apK.eq_def, ↓apD.eq_def, ↓apM.eq_def, isMo, ↓apS.eq_def, nxt, put, setT, setB, delB, lkT_n, lkT_c, lkB_n, lkB_c, ev, ofC, inT, ofA, ofRet, dV_n, dV_c, getD_enc, toDs_dV, List.head?_cons, List.length_map, Option.toArray_some, Option.toArray_none, Int.toNat_natCast, slOf, TyK.agg, vcells, splice, pickOps, headF, restF, allF, zOf, strip, stripP, gOf, allP, rowV, toDs, toD, toA, toAs, headOps, tailOps, isT, addN, Op.operands, Call.operands, List.map_cons, List.map_nil, List.drop_zero, List.drop_succ_cons, List.take_succ_cons, List.take_zero, List.length_cons, List.length_nil, List.getElem?_cons_zero, List.getElem?_cons_succ, List.getElem?_toArray, Option.bind_some, Option.map_some, Option.map_none, List.append_nil, List.nil_append, List.cons_append, if_true, if_false, reduceIte, Nat.reduceEqDiff, Nat.reduceAdd, Nat.reduceSub, Int.reduceToNat, Nat.reduceLeDiff, Nat.reduceLT, and_false, and_self, Nat.zero_add, Nat.add_zero, reduceCtorEq, Option.getD_some, Option.getD_none, Option.isSome_some, Option.isSome_none, forall_const, true_and, and_true, true_implies, Bool.true_and, Bool.false_and, Bool.and_true, Bool.and_false, Bool.true_or, Bool.false_or, Bool.or_true, Bool.or_false, beq_self_eq_true, zipM, zcells, Value.cells, Value.oneCell', List.toList_toArray, Array.toList_append, Bool.not_not, List.cons.injEq, Int.reduceEq, eq_self, false_and, Bool.not_true, Bool.not_false, ne_eq, not_false_eq_true, imp_self, implies_true, av_bt, av_bf, av_and, av_or, av_nf, av_tt, av_n1, av_n2, av_t1, av_tp, entD_len, entD_take, entD_hd, entD_ln, entD_ic, entD_d1, entD_d2, entD_d3, entD_d4, entD_d5, entD_d6, entD_d7, ty_39, ty_3]
  refine aw_ret ?_
  simp only [↓rwp.eq_def, ↓sop.eq_def, ↓slotK.eq_def, inV, shT, unT, inQ, rfQ, rfEnd, resOf, pickT, setP, ydA, ydQ, rowW, vD, fillV,  ↓gop.eq_def, ↓hop.eq_def, ↓hopH.eq_def, ↓hwp.eq_def, ↓ldV.eq_def, ↓ldK.eq_def, ↓ixK.eq_def, ↓addOff.eq_def, ↓exK.eq_def, ↓notK.eq_def, ↓pickK.eq_def, ↓iop2.eq_def, ↓binK.eq_def, ↓eqop.eq_def, icells, ↓iop.eq_def, ↓cutK.eq_def, ↓lenK.eq_def, ↓lenM.eq_def, tyInt, ↓lookK.eq_def, ↓mpK.eq_def, keyV, allI, fitK, lkM, upM, dlM, kq, ↓cvK.eq_def, ↓mmK.eq_def, ↓biK.eq_def, ↓stK.eq_def, ↓apK.eq_def, ↓apD.eq_def, ↓apM.eq_def, isMo, ↓apS.eq_def, nxt, put, setT, setB, delB, lkT_n, lkT_c, lkB_n, lkB_c, ev, ofC, inT, ofA, ofRet, dV_n, dV_c, getD_enc, toDs_dV, List.head?_cons, List.length_map, Option.toArray_some, Option.toArray_none, Int.toNat_natCast, slOf, TyK.agg, vcells, splice, pickOps, headF, restF, allF, zOf, strip, stripP, gOf, allP, rowV, toDs, toD, toA, toAs, headOps, tailOps, isT, addN, Op.operands, Call.operands, List.map_cons, List.map_nil, List.drop_zero, List.drop_succ_cons, List.take_succ_cons, List.take_zero, List.length_cons, List.length_nil, List.getElem?_cons_zero, List.getElem?_cons_succ, List.getElem?_toArray, Option.bind_some, Option.map_some, Option.map_none, List.append_nil, List.nil_append, List.cons_append, if_true, if_false, reduceIte, Nat.reduceEqDiff, Nat.reduceAdd, Nat.reduceSub, Int.reduceToNat, Nat.reduceLeDiff, Nat.reduceLT, and_false, and_self, Nat.zero_add, Nat.add_zero, reduceCtorEq, Option.getD_some, Option.getD_none, Option.isSome_some, Option.isSome_none, forall_const, true_and, and_true, true_implies, Bool.true_and, Bool.false_and, Bool.and_true, Bool.and_false, Bool.true_or, Bool.false_or, Bool.or_true, Bool.or_false, beq_self_eq_true, zipM, zcells, Value.cells, Value.oneCell', List.toList_toArray, Array.toList_append, Bool.not_not, List.cons.injEq, Int.reduceEq, eq_self, false_and, Bool.not_true, Bool.not_false, ne_eq, not_false_eq_true, imp_self, implies_true, av_bt, av_bf, av_and, av_or, av_nf, av_tt, av_n1, av_n2, av_t1, av_tp, retQ, retL, resV, RetV, RetOk, SubL, entD_len, entD_take, entD_hd, entD_ln, entD_ic, entD_d1, entD_d2, entD_d3, entD_d4, entD_d5, entD_d6, entD_d7, ty_39, ty_3]
  exact Sub.of_eq (by simp [spanB])
set_option maxHeartbeats 4000000
end Go.Proofs.Ytfmefdeldgmhpaa


namespace Go.Proofs.Ytfmefdeldgmhpaa
set_option linter.unusedSimpArgs false
set_option linter.unusedVariables false
open Go.RowKit
instance : Inhabited Ent := ⟨⟨0, 0, 0, 0, 0, 0, 0, 0⟩⟩
def lastAt (l : List Ent) (k : Nat) : Int := if k = 0 then -1 else (l.getD (k - 1) default).no
theorem goodL_at (l : List Ent) (k : Nat) (h : k < l.length) : goodL (lastAt l k) (l.drop k) = (validE (l.getD k default) && decide (lastAt l k < (l.getD k default).no) && goodL (lastAt l (k + 1)) (l.drop (k + 1))) := by
  rw [List.drop_eq_getElem_cons h, goodL]
  have : l.getD k default = l[k] := by simp [List.getD, h]
  simp only [lastAt, this, Nat.add_sub_cancel]
  rfl
theorem validE_no (x : Ent) : validE x = true → 0 ≤ x.no := by
  simp [validE, idB]; omega
set_option maxRecDepth 100000
set_option maxHeartbeats 4000000
abbrev aEs (l : List Ent) : A := .one (.sl 8 (entD default) (l.map entD))
abbrev vEs (l : List Ent) : V := .d (.sl 8 (entD default) (l.map entD))
end Go.Proofs.Ytfmefdeldgmhpaa


namespace Go.Proofs.Ytfmefdeldgmhpaa
set_option linter.unusedSimpArgs false
set_option linter.unusedVariables false
open Go.RowKit
set_option maxRecDepth 100000
set_option maxHeartbeats 4000000
/-- what stands, of the first k -/
def pre (l : List Ent) (day time : Int) (k : Nat) : List Ent := (l.take k).filter (fun x => countsB day time x && !(l.any (fun y => countsB day time y && replB y x)))
def errS (l : List Ent) (day time : Int) : Int := if checkL l ≠ 0 then checkL l else if day < 0 ∨ 2097152 ≤ day ∨ time < 0 ∨ 2097152 ≤ time then 1 else 0
def standE (l : List Ent) (day time : Int) : List Ent := if errS l day time = 0 then standRef day time l else []
end Go.Proofs.Ytfmefdeldgmhpaa


namespace Go.Proofs.Ytfmefdeldgmhpaa
set_option linter.unusedSimpArgs false
set_option linter.unusedVariables false
open Go.RowKit
theorem keyOk_int_ : KeyOk Try.prog 3 .i := keyOk_int Try.underlying3
end Go.Proofs.Ytfmefdeldgmhpaa


namespace Go.Proofs.Ytfmefdeldgmhpaa
set_option linter.unusedSimpArgs false
set_option linter.unusedVariables false
open Go.RowKit
set_option maxRecDepth 100000
set_option maxHeartbeats 4000000
abbrev fnD (n : Nat) : D := .c (.func (.func n) #[] #[])
def kindsD : D := .mp .i 3 .nilFunc (.c .nilFunc) [[1], [2], [3], [4]] [fnD 68, fnD 69, fnD 67, fnD 67]
theorem gk1_spec (a b : Int) : Spec Try.prog 67 [aI a, aI b] (.r1 (aB (b == 0))) := by
  refine spec_of T_ok Try.func67 (by dsimp only [Try.f67]) rfl rfl (by simp) fun w F => ?_
  repeat' (first
    | (with_reducible refine aw_seq ?_)
    | ((with_reducible refine twoG_intro ?_ ?_) <;> intro hTw <;> first | (exact Bool.noConfusion hTw) | ((try simp only [hTw, Bool.not_true, Bool.not_false, Bool.true_and, Bool.false_and, Bool.and_true, Bool.and_false, Bool.true_or, Bool.false_or, Bool.or_true, Bool.or_false]); (first | (guard_hyp hTw : true = true; clear hTw) | (guard_hyp hTw : false = false; clear hTw) | (revert hTw; intro _))))
    | ((with_reducible refine two_intro ?_ ?_) <;> intro hTw <;> first | (exact Bool.noConfusion hTw) | ((first | (guard_hyp hTw : true = true; clear hTw) | (guard_hyp hTw : false = false; clear hTw) | (revert hTw; intro _))))
    | ((with_reducible refine And.intro ?_ ?_); (focus (first | exact keyOk_int_ | omega | rfl | decide | grind)))
    | (with_reducible refine aw_block ?_)
    | (with_reducible refine aw_scope ?_)
    | ((first
        | ((with_reducible refine aw_regionA T_ok ?_ ?_); (focus kernel_rfl))
        | ((with_reducible refine aw_drawnA T_ok ?_ ?_ ?_ ?_); (focus kernel_rfl); (focus kernel_rfl); (focus (decide +kernel)))
        | ((with_reducible refine aw_drawnF T_ok ?_ ?_ ?_ ?_); (focus kernel_rfl); (focus kernel_rfl); (focus (decide +kernel)))
        | (with_reducible refine aw_label ?_)
        | ((with_reducible refine aw_rfM ?_ ?_); (focus kernel_rfl))
        | (with_reducible refine aw_skip ?_)
        | (with_reducible refine aw_exit ?_)
        | ((with_reducible refine aw_condM ?_ ?_); (focus kernel_rfl))
        | (with_reducible refine aw_ret ?_)
      ); simp only [↓rwp.eq_def, ↓sop.eq_def, ↓slotK.eq_def, inV, shT, unT, inQ, rfQ, rfEnd, resOf, pickT, setP, ydA, ydQ, rowW, vD, fillV,  ↓gop.eq_def, ↓hop.eq_def, ↓hopH.eq_def, ↓hwp.eq_def, ↓ldV.eq_def, ↓ldK.eq_def, ↓ixK.eq_def, ↓addOff.eq_def, ↓exK.eq_def, ↓notK.eq_def, ↓pickK.eq_def, ↓iop2.eq_def, ↓binK.eq_def, ↓eqop.eq_def, icells, ↓iop.eq_def, ↓cutK.eq_def, ↓lenK.eq_def, ↓lenM.eq_def, tyInt, ↓lookK.eq_def, ↓mpK.eq_def, keyV, allI, fitK, lkM, upM, dlM, kq, ↓cvK.eq_def, ↓mmK.eq_def, ↓biK.eq_def, ↓stK.eq_def, ↓apK.eq_def, ↓apD.eq_def, ↓apM.eq_def, isMo, ↓apS.eq_def, nxt, put, setT, setB, delB, lkT_n, lkT_c, lkB_n, lkB_c, ev, ofC, inT, ofA, ofRet, dV_n, dV_c, getD_enc, toDs_dV, List.head?_cons, List.length_map, Option.toArray_some, Option.toArray_none, Int.toNat_natCast, slOf, TyK.agg, vcells, splice, pickOps, headF, restF, allF, zOf, strip, stripP, gOf, allP, rowV, toDs, toD, toA, toAs, headOps, tailOps, isT, addN, Op.operands, Call.operands, List.map_cons, List.map_nil, List.drop_zero, List.drop_succ_cons, List.take_succ_cons, List.take_zero, List.length_cons, List.length_nil, List.getElem?_cons_zero, List.getElem?_cons_succ, List.getElem?_toArray, Option.bind_some, Option.map_some, Option.map_none, List.append_nil, List.nil_append, List.cons_append, if_true, if_false, reduceIte, Nat.reduceEqDiff, Nat.reduceAdd, Nat.reduceSub, Int.reduceToNat, Nat.reduceLeDiff, Nat.reduceLT, and_false, and_self, Nat.zero_add, Nat.add_zero, reduceCtorEq, Option.getD_some, Option.getD_none, Option.isSome_some, Option.isSome_none, forall_const, true_and, and_true, true_implies, Bool.true_and, Bool.false_and, Bool.and_true, Bool.and_false, Bool.true_or, Bool.false_or, Bool.or_true, Bool.or_false, beq_self_eq_true, zipM, zcells, Value.cells, Value.oneCell', List.toList_toArray, Array.toList_append, Bool.not_not, List.cons.injEq, Int.reduceEq, eq_self, false_and, Bool.not_true, Bool.not_false, ne_eq, not_false_eq_true, imp_self, implies_true, av_bt, av_bf, av_and, av_or, av_nf, av_tt, av_n1, av_n2, av_t1, av_tp, retQ, retL, resV, RetV, RetOk, SubL, entD_len, entD_take, entD_hd, entD_ln, entD_ic, entD_d1, entD_d2, entD_d3, entD_d4, entD_d5, entD_d6, entD_d7, ty_39, ty_3, ty_22, ty_89, ty_87]; try simp (disch := omega) only [av_w, av_t1, av_tp, Int.toNat_natCast]))
  exact Sub.refl _
theorem gk2_spec (a b : Int) : Spec Try.prog 68 [aI a, aI b] (.r1 (aB (decide (0 ≤ b) && decide (b < 24)))) := by
  refine spec_of T_ok Try.func68 (by dsimp only [Try.f68]) rfl rfl (by simp) fun w F => ?_
  repeat' (first
    | (with_reducible refine aw_seq ?_)
    | ((with_reducible refine twoG_intro ?_ ?_) <;> intro hTw <;> first | (exact Bool.noConfusion hTw) | ((try simp only [hTw, Bool.not_true, Bool.not_false, Bool.true_and, Bool.false_and, Bool.and_true, Bool.and_false, Bool.true_or, Bool.false_or, Bool.or_true, Bool.or_false]); (first | (guard_hyp hTw : true = true; clear hTw) | (guard_hyp hTw : false = false; clear hTw) | (revert hTw; intro _))))
    | ((with_reducible refine two_intro ?_ ?_) <;> intro hTw <;> first | (exact Bool.noConfusion hTw) | ((first | (guard_hyp hTw : true = true; clear hTw) | (guard_hyp hTw : false = false; clear hTw) | (revert hTw; intro _))))
    | ((with_reducible refine And.intro ?_ ?_); (focus (first | exact keyOk_int_ | omega | rfl | decide | grind)))
    | (with_reducible refine aw_block ?_)
    | (with_reducible refine aw_scope ?_)
    | ((first
        | ((with_reducible refine aw_regionA T_ok ?_ ?_); (focus kernel_rfl))
        | ((with_reducible refine aw_drawnA T_ok ?_ ?_ ?_ ?_); (focus kernel_rfl); (focus kernel_rfl); (focus (decide +kernel)))
        | ((with_reducible refine aw_drawnF T_ok ?_ ?_ ?_ ?_); (focus kernel_rfl); (focus kernel_rfl); (focus (decide +kernel)))
        | (with_reducible refine aw_label ?_)
        | ((with_reducible refine aw_rfM ?_ ?_); (focus kernel_rfl))
        | (with_reducible refine aw_skip ?_)
        | (with_reducible refine aw_exit ?_)
        | ((with_reducible refine aw_condM ?_ ?_); (focus kernel_rfl))
        | (with_reducible refine aw_ret ?_)
      ); simp only [↓rwp.eq_def, ↓sop.eq_def, ↓slotK.eq_def, inV, shT, unT, inQ, rfQ, rfEnd, resOf, pickT, setP, ydA, ydQ, rowW, vD, fillV,  ↓gop.eq_def, ↓hop.eq_def, ↓hopH.eq_def, ↓hwp.eq_def, ↓ldV.eq_def, ↓ldK.eq_def, ↓ixK.eq_def, ↓addOff.eq_def, ↓exK.eq_def, ↓notK.eq_def, ↓pickK.eq_def, ↓iop2.eq_def, ↓binK.eq_def, ↓eqop.eq_def, icells, ↓iop.eq_def, ↓cutK.eq_def, ↓lenK.eq_def, ↓lenM.eq_def, tyInt, ↓lookK.eq_def, ↓mpK.eq_def, keyV, allI, fitK, lkM, upM, dlM, kq, ↓cvK.eq_def, ↓mmK.eq_def, ↓biK.eq_def, ↓stK.eq_def, ↓apK.eq_def, ↓apD.eq_def, ↓apM.eq_def, isMo, ↓apS.eq_def, nxt, put, setT, setB, delB, lkT_n, lkT_c, lkB_n, lkB_c, ev, ofC, inT, ofA, ofRet, dV_n, dV_c, getD_enc, toDs_dV, List.head?_cons, List.length_map, Option.toArray_some, Option.toArray_none, Int.toNat_natCast, slOf, TyK.agg, vcells, splice, pickOps, headF, restF, allF, zOf, strip, stripP, gOf, allP, rowV, toDs, toD, toA, toAs, headOps, tailOps, isT, addN, Op.operands, Call.operands, List.map_cons, List.map_nil, List.drop_zero, List.drop_succ_cons, List.take_succ_cons, List.take_zero, List.length_cons, List.length_nil, List.getElem?_cons_zero, List.getElem?_cons_succ, List.getElem?_toArray, Option.bind_some, Option.map_some, Option.map_none, List.append_nil, List.nil_append, List.cons_append, if_true, if_false, reduceIte, Nat.reduceEqDiff, Nat.reduceAdd, Nat.reduceSub, Int.reduceToNat, Nat.reduceLeDiff, Nat.reduceLT, and_false, and_self, Nat.zero_add, Nat.add_zero, reduceCtorEq, Option.getD_some, Option.getD_none, Option.isSome_some, Option.isSome_none, forall_const, true_and, and_true, true_implies, Bool.true_and, Bool.false_and, Bool.and_true, Bool.and_false, Bool.true_or, Bool.false_or, Bool.or_true, Bool.or_false, beq_self_eq_true, zipM, zcells, Value.cells, Value.oneCell', List.toList_toArray, Array.toList_append, Bool.not_not, List.cons.injEq, Int.reduceEq, eq_self, false_and, Bool.not_true, Bool.not_false, ne_eq, not_false_eq_true, imp_self, implies_true, av_bt, av_bf, av_and, av_or, av_nf, av_tt, av_n1, av_n2, av_t1, av_tp, retQ, retL, resV, RetV, RetOk, SubL, entD_len, entD_take, entD_hd, entD_ln, entD_ic, entD_d1, entD_d2, entD_d3, entD_d4, entD_d5, entD_d6, entD_d7, ty_39, ty_3, ty_22, ty_89, ty_87]; try simp (disch := omega) only [av_w, av_t1, av_tp, Int.toNat_natCast]))
  exact Sub.refl _
theorem gk3_spec (a b : Int) : Spec Try.prog 69 [aI a, aI b] (.r1 (aB (a != b && idB b))) := by
  refine spec_of T_ok Try.func69 (by dsimp only [Try.f69]) rfl rfl (by simp) fun w F => ?_
  repeat' (first
    | (with_reducible refine aw_seq ?_)
    | ((with_reducible refine twoG_intro ?_ ?_) <;> intro hTw <;> first | (exact Bool.noConfusion hTw) | ((try simp only [hTw, Bool.not_true, Bool.not_false, Bool.true_and, Bool.false_and, Bool.and_true, Bool.and_false, Bool.true_or, Bool.false_or, Bool.or_true, Bool.or_false]); (first | (guard_hyp hTw : true = true; clear hTw) | (guard_hyp hTw : false = false; clear hTw) | (revert hTw; intro _))))
    | ((with_reducible refine two_intro ?_ ?_) <;> intro hTw <;> first | (exact Bool.noConfusion hTw) | ((first | (guard_hyp hTw : true = true; clear hTw) | (guard_hyp hTw : false = false; clear hTw) | (revert hTw; intro _))))
    | ((with_reducible refine And.intro ?_ ?_); (focus (first | exact keyOk_int_ | omega | rfl | decide | grind)))
    | (with_reducible refine aw_block ?_)
    | (with_reducible refine aw_scope ?_)
    | ((first
        | ((with_reducible refine aw_regionA T_ok ?_ ?_); (focus kernel_rfl))
        | ((with_reducible refine aw_drawnA T_ok ?_ ?_ ?_ ?_); (focus kernel_rfl); (focus kernel_rfl); (focus (decide +kernel)))
        | ((with_reducible refine aw_drawnF T_ok ?_ ?_ ?_ ?_); (focus kernel_rfl); (focus kernel_rfl); (focus (decide +kernel)))
        | ((with_reducible refine callK_intro (gid_spec _) (by with_unfolding_all rfl) ?_ ?_); (focus kernel_rfl))
        | ((with_reducible refine callI_spec (gid_spec _) (by with_unfolding_all rfl) ?_ ?_ ?_); (focus kernel_rfl); (focus kernel_rfl))
        | (with_reducible refine aw_label ?_)
        | ((with_reducible refine aw_rfM ?_ ?_); (focus kernel_rfl))
        | (with_reducible refine aw_skip ?_)
        | (with_reducible refine aw_exit ?_)
        | ((with_reducible refine aw_condM ?_ ?_); (focus kernel_rfl))
        | (with_reducible refine aw_ret ?_)
      ); simp only [↓rwp.eq_def, ↓sop.eq_def, ↓slotK.eq_def, inV, shT, unT, inQ, rfQ, rfEnd, resOf, pickT, setP, ydA, ydQ, rowW, vD, fillV,  ↓gop.eq_def, ↓hop.eq_def, ↓hopH.eq_def, ↓hwp.eq_def, ↓ldV.eq_def, ↓ldK.eq_def, ↓ixK.eq_def, ↓addOff.eq_def, ↓exK.eq_def, ↓notK.eq_def, ↓pickK.eq_def, ↓iop2.eq_def, ↓binK.eq_def, ↓eqop.eq_def, icells, ↓iop.eq_def, ↓cutK.eq_def, ↓lenK.eq_def, ↓lenM.eq_def, tyInt, ↓lookK.eq_def, ↓mpK.eq_def, keyV, allI, fitK, lkM, upM, dlM, kq, ↓cvK.eq_def, ↓mmK.eq_def, ↓biK.eq_def, ↓stK.eq_def, ↓apK.eq_def, ↓apD.eq_def, ↓apM.eq_def, isMo, ↓apS.eq_def, nxt, put, setT, setB, delB, lkT_n, lkT_c, lkB_n, lkB_c, ev, ofC, inT, ofA, ofRet, dV_n, dV_c, getD_enc, toDs_dV, List.head?_cons, List.length_map, Option.toArray_some, Option.toArray_none, Int.toNat_natCast, slOf, TyK.agg, vcells, splice, pickOps, headF, restF, allF, zOf, strip, stripP, gOf, allP, rowV, toDs, toD, toA, toAs, headOps, tailOps, isT, addN, Op.operands, Call.operands, List.map_cons, List.map_nil, List.drop_zero, List.drop_succ_cons, List.take_succ_cons, List.take_zero, List.length_cons, List.length_nil, List.getElem?_cons_zero, List.getElem?_cons_succ, List.getElem?_toArray, Option.bind_some, Option.map_some, Option.map_none, List.append_nil, List.nil_append, List.cons_append, if_true, if_false, reduceIte, Nat.reduceEqDiff, Nat.reduceAdd, Nat.reduceSub, Int.reduceToNat, Nat.reduceLeDiff, Nat.reduceLT, and_false, and_self, Nat.zero_add, Nat.add_zero, reduceCtorEq, Option.getD_some, Option.getD_none, Option.isSome_some, Option.isSome_none, forall_const, true_and, and_true, true_implies, Bool.true_and, Bool.false_and, Bool.and_true, Bool.and_false, Bool.true_or, Bool.false_or, Bool.or_true, Bool.or_false, beq_self_eq_true, zipM, zcells, Value.cells, Value.oneCell', List.toList_toArray, Array.toList_append, Bool.not_not, List.cons.injEq, Int.reduceEq, eq_self, false_and, Bool.not_true, Bool.not_false, ne_eq, not_false_eq_true, imp_self, implies_true, av_bt, av_bf, av_and, av_or, av_nf, av_tt, av_n1, av_n2, av_t1, av_tp, retQ, retL, resV, RetV, RetOk, SubL, entD_len, entD_take, entD_hd, entD_ln, entD_ic, entD_d1, entD_d2, entD_d3, entD_d4, entD_d5, entD_d6, entD_d7, ty_39, ty_3, ty_22, ty_89, ty_87]; try simp (disch := omega) only [av_w, av_t1, av_tp, Int.toNat_natCast]))
  exact Sub.refl _
theorem gkinds_spec : Spec Try.prog 60 [] (.r1 (.one kindsD)) := by
  refine spec_of T_ok Try.func60 (by dsimp only [Try.f60]) rfl rfl (by simp) fun w F => ?_
  refine aw_seq (aw_region T_ok (by kernel_rfl) ?_)
  simp only [↓rwp.eq_def, ↓sop.eq_def, ↓slotK.eq_def, inV, shT, unT, inQ, rfQ, rfEnd, resOf, pickT, setP, ydA, ydQ, rowW, vD, fillV,  ↓gop.eq_def, ↓hop.eq_def, ↓hopH.eq_def, ↓hwp.eq_def, ↓ldV.eq_def, ↓ldK.eq_def, ↓ixK.eq_def, ↓addOff.eq_def, ↓exK.eq_def, ↓notK.eq_def, ↓pickK.eq_def, ↓iop2.eq_def, ↓binK.eq_def, ↓eqop.eq_def, icells, ↓iop.eq_def, ↓cutK.eq_def, ↓lenK.eq_def, ↓lenM.eq_def, tyInt, ↓lookK.eq_def, ↓mpK.eq_def, keyV, allI, fitK, lkM, upM, dlM, kq, ↓cvK.eq_def, ↓mmK.eq_def, ↓biK.eq_def, ↓stK.eq_def, ↓apK.eq_def, ↓apD.eq_def, ↓apM.eq_def, isMo, ↓apS.eq_def, nxt, put, setT, setB, delB, lkT_n, lkT_c, lkB_n, lkB_c, ev, ofC, inT, ofA, ofRet, dV_n, dV_c, getD_enc, toDs_dV, List.head?_cons, List.length_map, Option.toArray_some, Option.toArray_none, Int.toNat_natCast, slOf, TyK.agg, vcells, splice, pickOps, headF, restF, allF, zOf, strip, stripP, gOf, allP, rowV, toDs, toD, toA, toAs, headOps, tailOps, isT, addN, Op.operands, Call.operands, List.map_cons, List.map_nil, List.drop_zero, List.drop_succ_cons, List.take_succ_cons, List.take_zero, List.length_cons, List.length_nil, List.getElem?_cons_zero, List.getElem?_cons_succ, List.getElem?_toArray, Option.bind_some, Option.map_some, Option.map_none, List.append_nil, List.nil_append, List.cons_append, if_true, if_false, reduceIte, Nat.reduceEqDiff, Nat.reduceAdd, Nat.reduceSub, Int.reduceToNat, Nat.reduceLeDiff, Nat.reduceLT, and_false, and_self, Nat.zero_add, Nat.add_zero, reduceCtorEq, Option.getD_some, Option.getD_none, Option.isSome_some, Option.isSome_none, forall_const, true_and, and_true, true_implies, Bool.true_and, Bool.false_and, Bool.and_true, Bool.and_false, Bool.true_or, Bool.false_or, Bool.or_true, Bool.or_false, beq_self_eq_true, zipM, zcells, Value.cells, Value.oneCell', List.toList_toArray, Array.toList_append, Bool.not_not, List.cons.injEq, Int.reduceEq, eq_self, false_and, Bool.not_true, Bool.not_false, ne_eq, not_false_eq_true, imp_self, implies_true, av_bt, av_bf, av_and, av_or, av_nf, av_tt, av_n1, av_n2, av_t1, av_tp, entD_len, entD_take, entD_hd, entD_ln, entD_ic, entD_d1, entD_d2, entD_d3, entD_d4, entD_d5, entD_d6, entD_d7, ty_39, ty_3, ty_22, ty_89, ty_87]
  refine aw_seq (aw_region T_ok (by kernel_rfl) ?_)
  simp only [↓rwp.eq_def, ↓sop.eq_def, ↓slotK.eq_def, inV, shT, unT, inQ, rfQ, rfEnd, resOf, pickT, setP, ydA, ydQ, rowW, vD, fillV,  ↓gop.eq_def, ↓hop.eq_def, ↓hopH.eq_def, ↓hwp.eq_def, ↓ldV.eq_def, ↓ldK.eq_def, ↓ixK.eq_def, ↓addOff.eq_def, ↓exK.eq_def, ↓notK.eq_def, ↓pickK.eq_def, ↓iop2.eq_def, ↓binK.eq_def, ↓eqop.eq_def, icells, ↓iop.eq_def, ↓cutK.eq_def, ↓lenK.eq_def, ↓lenM.eq_def, tyInt, ↓lookK.eq_def, ↓mpK.eq_def, keyV, allI, fitK, lkM, upM, dlM, kq, ↓cvK.eq_def, ↓mmK.eq_def, ↓biK.eq_def, ↓stK.eq_def, ↓apK.eq_def, ↓apD.eq_def, ↓apM.eq_def, isMo, ↓apS.eq_def, nxt, put, setT, setB, delB, lkT_n, lkT_c, lkB_n, lkB_c, ev, ofC, inT, ofA, ofRet, dV_n, dV_c, getD_enc, toDs_dV, List.head?_cons, List.length_map, Option.toArray_some, Option.toArray_none, Int.toNat_natCast, slOf, TyK.agg, vcells, splice, pickOps, headF, restF, allF, zOf, strip, stripP, gOf, allP, rowV, toDs, toD, toA, toAs, headOps, tailOps, isT, addN, Op.operands, Call.operands, List.map_cons, List.map_nil, List.drop_zero, List.drop_succ_cons, List.take_succ_cons, List.take_zero, List.length_cons, List.length_nil, List.getElem?_cons_zero, List.getElem?_cons_succ, List.getElem?_toArray, Option.bind_some, Option.map_some, Option.map_none, List.append_nil, List.nil_append, List.cons_append, if_true, if_false, reduceIte, Nat.reduceEqDiff, Nat.reduceAdd, Nat.reduceSub, Int.reduceToNat, Nat.reduceLeDiff, Nat.reduceLT, and_false, and_self, Nat.zero_add, Nat.add_zero, reduceCtorEq, Option.getD_some, Option.getD_none, Option.isSome_some, Option.isSome_none, forall_const, true_and, and_true, true_implies, Bool.true_and, Bool.false_and, Bool.and_true, Bool.and_false, Bool.true_or, Bool.false_or, Bool.or_true, Bool.or_false, beq_self_eq_true, zipM, zcells, Value.cells, Value.oneCell', List.toList_toArray, Array.toList_append, Bool.not_not, List.cons.injEq, Int.reduceEq, eq_self, false_and, Bool.not_true, Bool.not_false, ne_eq, not_false_eq_true, imp_self, implies_true, av_bt, av_bf, av_and, av_or, av_nf, av_tt, av_n1, av_n2, av_t1, av_tp, entD_len, entD_take, entD_hd, entD_ln, entD_ic, entD_d1, entD_d2, entD_d3, entD_d4, entD_d5, entD_d6, entD_d7, ty_39, ty_3, ty_22, ty_89, ty_87]
  refine aw_seq (aw_region T_ok (by kernel_rfl) ?_)
  simp only [↓rwp.eq_def, ↓sop.eq_def, ↓slotK.eq_def, inV, shT, unT, inQ, rfQ, rfEnd, resOf, pickT, setP, ydA, ydQ, rowW, vD, fillV,  ↓gop.eq_def, ↓hop.eq_def, ↓hopH.eq_def, ↓hwp.eq_def, ↓ldV.eq_def, ↓ldK.eq_def, ↓ixK.eq_def, ↓addOff.eq_def, ↓exK.eq_def, ↓notK.eq_def, ↓pickK.eq_def, ↓iop2.eq_def, ↓binK.eq_def, ↓eqop.eq_def, icells, ↓iop.eq_def, ↓cutK.eq_def, ↓lenK.eq_def, ↓lenM.eq_def, tyInt, ↓lookK.eq_def, ↓mpK.eq_def, keyV, allI, fitK, lkM, upM, dlM, kq, ↓cvK.eq_def, ↓mmK.eq_def, ↓biK.eq_def, ↓stK.eq_def, ↓apK.eq_def, ↓apD.eq_def, ↓apM.eq_def, isMo, ↓apS.eq_def, nxt, put, setT, setB, delB, lkT_n, lkT_c, lkB_n, lkB_c, ev, ofC, inT, ofA, ofRet, dV_n, dV_c, getD_enc, toDs_dV, List.head?_cons, List.length_map, Option.toArray_some, Option.toArray_none, Int.toNat_natCast, slOf, TyK.agg, vcells, splice, pickOps, headF, restF, allF, zOf, strip, stripP, gOf, allP, rowV, toDs, toD, toA, toAs, headOps, tailOps, isT, addN, Op.operands, Call.operands, List.map_cons, List.map_nil, List.drop_zero, List.drop_succ_cons, List.take_succ_cons, List.take_zero, List.length_cons, List.length_nil, List.getElem?_cons_zero, List.getElem?_cons_succ, List.getElem?_toArray, Option.bind_some, Option.map_some, Option.map_none, List.append_nil, List.nil_append, List.cons_append, if_true, if_false, reduceIte, Nat.reduceEqDiff, Nat.reduceAdd, Nat.reduceSub, Int.reduceToNat, Nat.reduceLeDiff, Nat.reduceLT, and_false, and_self, Nat.zero_add, Nat.add_zero, reduceCtorEq, Option.getD_some, Option.getD_none, Option.isSome_some, Option.isSome_none, forall_const, true_and, and_true, true_implies, Bool.true_and, Bool.false_and, Bool.and_true, Bool.and_false, Bool.true_or, Bool.false_or, Bool.or_true, Bool.or_false, beq_self_eq_true, zipM, zcells, Value.cells, Value.oneCell', List.toList_toArray, Array.toList_append, Bool.not_not, List.cons.injEq, Int.reduceEq, eq_self, false_and, Bool.not_true, Bool.not_false, ne_eq, not_false_eq_true, imp_self, implies_true, av_bt, av_bf, av_and, av_or, av_nf, av_tt, av_n1, av_n2, av_t1, av_tp, entD_len, entD_take, entD_hd, entD_ln, entD_ic, entD_d1, entD_d2, entD_d3, entD_d4, entD_d5, entD_d6, entD_d7, ty_39, ty_3, ty_22, ty_89, ty_87]
  repeat refine And.intro (by first | exact keyOk_int_ | omega | rfl) ?_
  refine aw_wk (wk_frz (tm' := [(0, .d kindsD)]) ⟨⟨1, kindsD, rfl, Frz.mp rfl Frz.d (fun _ _ _ h => h) rfl rfl ?_⟩, trivial⟩) ?_
  · intro i x d' h1 h2
    match i with
    | 0 => simp at h1 h2; subst h1; subst h2; exact Frz.d
    | 1 => simp at h1 h2; subst h1; subst h2; exact Frz.d
    | 2 => simp at h1 h2; subst h1; subst h2; exact Frz.d
    | 3 => simp at h1 h2; subst h1; subst h2; exact Frz.d
    | i + 4 => simp at h1
  repeat' (first
    | (with_reducible refine aw_seq ?_)
    | ((with_reducible refine twoG_intro ?_ ?_) <;> intro hTw <;> first | (exact Bool.noConfusion hTw) | ((try simp only [hTw, Bool.not_true, Bool.not_false, Bool.true_and, Bool.false_and, Bool.and_true, Bool.and_false, Bool.true_or, Bool.false_or, Bool.or_true, Bool.or_false]); (first | (guard_hyp hTw : true = true; clear hTw) | (guard_hyp hTw : false = false; clear hTw) | (revert hTw; intro _))))
    | ((with_reducible refine two_intro ?_ ?_) <;> intro hTw <;> first | (exact Bool.noConfusion hTw) | ((first | (guard_hyp hTw : true = true; clear hTw) | (guard_hyp hTw : false = false; clear hTw) | (revert hTw; intro _))))
    | ((with_reducible refine And.intro ?_ ?_); (focus (first | exact keyOk_int_ | omega | rfl | decide | grind)))
    | (with_reducible refine aw_block ?_)
    | (with_reducible refine aw_scope ?_)
    | ((first
        | ((with_reducible refine aw_regionA T_ok ?_ ?_); (focus kernel_rfl))
        | ((with_reducible refine aw_drawnA T_ok ?_ ?_ ?_ ?_); (focus kernel_rfl); (focus kernel_rfl); (focus (decide +kernel)))
        | ((with_reducible refine aw_drawnF T_ok ?_ ?_ ?_ ?_); (focus kernel_rfl); (focus kernel_rfl); (focus (decide +kernel)))
        | (with_reducible refine aw_label ?_)
        | ((with_reducible refine aw_rfM ?_ ?_); (focus kernel_rfl))
        | (with_reducible refine aw_skip ?_)
        | (with_reducible refine aw_exit ?_)
        | ((with_reducible refine aw_condM ?_ ?_); (focus kernel_rfl))
        | (with_reducible refine aw_ret ?_)
      ); simp only [↓rwp.eq_def, ↓sop.eq_def, ↓slotK.eq_def, inV, shT, unT, inQ, rfQ, rfEnd, resOf, pickT, setP, ydA, ydQ, rowW, vD, fillV,  ↓gop.eq_def, ↓hop.eq_def, ↓hopH.eq_def, ↓hwp.eq_def, ↓ldV.eq_def, ↓ldK.eq_def, ↓ixK.eq_def, ↓addOff.eq_def, ↓exK.eq_def, ↓notK.eq_def, ↓pickK.eq_def, ↓iop2.eq_def, ↓binK.eq_def, ↓eqop.eq_def, icells, ↓iop.eq_def, ↓cutK.eq_def, ↓lenK.eq_def, ↓lenM.eq_def, tyInt, ↓lookK.eq_def, ↓mpK.eq_def, keyV, allI, fitK, lkM, upM, dlM, kq, ↓cvK.eq_def, ↓mmK.eq_def, ↓biK.eq_def, ↓stK.eq_def, ↓apK.eq_def, ↓apD.eq_def, ↓apM.eq_def, isMo, ↓apS.eq_def, nxt, put, setT, setB, delB, lkT_n, lkT_c, lkB_n, lkB_c, ev, ofC, inT, ofA, ofRet, dV_n, dV_c, getD_enc, toDs_dV, List.head?_cons, List.length_map, Option.toArray_some, Option.toArray_none, Int.toNat_natCast, slOf, TyK.agg, vcells, splice, pickOps, headF, restF, allF, zOf, strip, stripP, gOf, allP, rowV, toDs, toD, toA, toAs, headOps, tailOps, isT, addN, Op.operands, Call.operands, List.map_cons, List.map_nil, List.drop_zero, List.drop_succ_cons, List.take_succ_cons, List.take_zero, List.length_cons, List.length_nil, List.getElem?_cons_zero, List.getElem?_cons_succ, List.getElem?_toArray, Option.bind_some, Option.map_some, Option.map_none, List.append_nil, List.nil_append, List.cons_append, if_true, if_false, reduceIte, Nat.reduceEqDiff, Nat.reduceAdd, Nat.reduceSub, Int.reduceToNat, Nat.reduceLeDiff, Nat.reduceLT, and_false, and_self, Nat.zero_add, Nat.add_zero, reduceCtorEq, Option.getD_some, Option.getD_none, Option.isSome_some, Option.isSome_none, forall_const, true_and, and_true, true_implies, Bool.true_and, Bool.false_and, Bool.and_true, Bool.and_false, Bool.true_or, Bool.false_or, Bool.or_true, Bool.or_false, beq_self_eq_true, zipM, zcells, Value.cells, Value.oneCell', List.toList_toArray, Array.toList_append, Bool.not_not, List.cons.injEq, Int.reduceEq, eq_self, false_and, Bool.not_true, Bool.not_false, ne_eq, not_false_eq_true, imp_self, implies_true, av_bt, av_bf, av_and, av_or, av_nf, av_tt, av_n1, av_n2, av_t1, av_tp, retQ, retL, resV, RetV, RetOk, SubL, entD_len, entD_take, entD_hd, entD_ln, entD_ic, entD_d1, entD_d2, entD_d3, entD_d4, entD_d5, entD_d6, entD_d7, ty_39, ty_3, ty_22, ty_89, ty_87]; try simp (disch := omega) only [av_w, av_t1, av_tp, Int.toNat_natCast]))
  exact Sub.refl _
end Go.Proofs.Ytfmefdeldgmhpaa

