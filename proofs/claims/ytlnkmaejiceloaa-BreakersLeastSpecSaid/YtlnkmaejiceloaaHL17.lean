import Derived.Test.YtlnkmaejiceloaaHL14
namespace Go.Proofs.Ytlnkmaejiceloaa
set_option linter.unusedVariables false
set_option linter.unusedSimpArgs false
open Go.RowKit
def drawOkN (l : List Oper) (hd tail : List Nat) (iw dW : Nat) : Bool :=
  sinkT .any l.toArray (fun i => hd.contains i) && tail.all (fun t => !hd.contains t) && (List.range l.length).all (fun i => hd.contains i || tail.contains i) && hd.all (fun i => decide (i < l.length)) && decide hd.Nodup &&
  (List.range l.length).all (fun i => match l[i]? with | some o => o.after.toList.all fun e => !Region.binds .any e || decide (e.on < i) | none => true) && incr (pickOps l (hd.filter (fun i => i != iw))) &&
  (pickOps l (hd.filter (fun i => i != iw))).all (fun p => (p.2.looksAt l.toArray).all fun t => t != dW && (pickOps l (hd.filter (fun i => i != iw))).all fun q => q.2.dst != some t || (if q.1 < p.1 then reachB .any l.toArray l.length p.1 q.1 else decide (p.1 < q.1) && reachB .any l.toArray l.length q.1 p.1)) &&
  seqT .any l.toArray tail (canonH l.length hd) && decide (hd.length + tail.length = l.length) && hd.contains iw &&
  (pickOps l (hd.filter (fun i => i != iw))).all (fun q => q.2.dst != some dW) &&
  (match l[iw]? with
    | some o => o.dst == some dW && (o.looksAt l.toArray).all fun t => t != dW && (pickOps l (hd.filter (fun i => i != iw))).all fun q => q.2.dst != some t || reachB .any l.toArray l.length iw q.1
    | none => false)
def selN {ι : Type} (n0 : Nat) (n1 : ι → Nat) : Option ι → Nat
  | some c => n1 c
  | none => n0
section
variable {P : Program} {B : Base} {T : Tab}
theorem wpAny_headsN {ι : Type} {l : List Oper} {hd tail : List Nat} {iw dW : Nat} {Q : Exit → Act → World → Prop} {tm0 tmF : List (Nat × V)} {stH st0 : List (Nat × Blk)} {st1 : ι → List (Nat × Blk)} {vW : V} {nx0 : Nat} {nx1 : ι → Nat} (hok : drawOkN l hd tail iw dW = true) (hrun : ∀ nx, HRun P B l.toArray stH nx tmF [] (pickOps l (hd.filter (fun i => i != iw))) tm0 []) (hN : (l.all (opOk B.N)) = true)
    (hs0 : ∀ n b, lkB stH n = some b → lkB st0 n = some b) (hs1 : ∀ c n b, lkB stH n = some b → lkB (st1 c) n = some b)
    (hwr : ∀ ow, l[iw]? = some ow → ∀ (tm : List (Nat × V)) (E : Env) (a : Act), Gam P B ⟨tm, st0, nx0⟩ E a → (∀ t ∈ ow.looksAt l.toArray, lkT tm t = lkT tmF t) →
      Region.wanted ow (yielded l.toArray a.tmps) = true ∧ ∀ N : Act → World → Prop, (∀ c E' a', Gam P B ⟨put (some dW) vW tm, st1 c, nx1 c⟩ E' a' → N a' E'.w) → ow.wpIn (fen B.r) 0 P a E.w N Q)
    (hQ : ∀ c E a, Gam P B ⟨(dW, vW) :: tmF, st1 c, nx1 c⟩ E a → wpListIn (fen B.r) 0 P l.toArray Q ((pickOps l tail).map (·.2)) a E.w) :
    ∀ (F : Nat) (co : Option ι) (listed : Array Bool) (tm : List (Nat × V)) (E : Env) (a : Act), GInv .any l.toArray listed → (∀ t ∈ tail, listed.getD t false = false) → hd.countP (fun i => !listed.getD i false) = F → co.isSome = listed.getD iw false →
      (∀ t, lkT tm t = if co.isSome = true ∧ t = dW then vW else if ((pickOps l (hd.filter (fun i => i != iw))).any fun p => p.2.dst == some t && listed.getD p.1 false) = true then lkT tmF t else lkT tm0 t) →
      Gam P B ⟨tm, selS st0 st1 co, selN nx0 nx1 co⟩ E a → wpAnyIn (fen B.r) 0 P .any l.toArray Q (F + tail.length) listed a E.w := by
  simp only [drawOkN, Bool.and_eq_true] at hok
  obtain ⟨⟨⟨⟨⟨⟨⟨⟨⟨⟨⟨⟨hsink, htl⟩, hpart⟩, hlt⟩, hnd⟩, hedge⟩, hincr⟩, hdep⟩, hseq⟩, _⟩, hiwh⟩, hdst⟩, hwok⟩ := hok
  have hiwh' : iw ∈ hd := by simpa using hiwh
  have hmN : ∀ {j : Nat}, j ∈ hd.filter (fun i => i != iw) ↔ j ∈ hd ∧ j ≠ iw := fun {j} => by simp [List.mem_filter]
  have hdst' : ∀ p ∈ pickOps l (hd.filter (fun i => i != iw)), p.2.dst ≠ some dW := fun p hp => by
    have := List.all_eq_true.1 hdst p hp
    simpa using this
  have f1 := (hrun_facts _ _ _ hincr (hrun 0)).1
  have hnd' : hd.Nodup := by simpa using hnd
  have htl' : ∀ t ∈ tail, hd.contains t = false := fun t ht => by have := List.all_eq_true.1 htl t ht; simpa using this
  intro F
  induction F with
  | zero =>
    intro co listed tm E a inv hT hcnt hco htm hG
    have hall : ∀ i ∈ hd, listed.getD i false = true := fun i hi => by
      have := List.countP_eq_zero.1 hcnt i hi
      simpa using this
    rw [hall iw hiwh'] at hco
    obtain ⟨c, rfl⟩ := Option.isSome_iff_exists.1 hco
    have hsz : listed.size = l.length := by rw [inv.size]; simp
    have hcan : listed = canonH l.length hd := by
      refine Array.ext_getElem? fun i => ?_
      have hcs := (foldl_canon hd (Array.replicate l.length false) i)
      have hcsz : (canonH l.length hd).size = l.length := by unfold canonH; rw [hcs.1]; simp
      by_cases hi : i < l.length
      · have e1 : listed[i]? = some (listed.getD i false) := by simp [Array.getD_eq_getD_getElem?, hsz, hi]
        have e2 : (canonH l.length hd)[i]? = some ((canonH l.length hd).getD i false) := by simp [Array.getD_eq_getD_getElem?, hcsz, hi]
        rw [e1, e2]
        congr 1
        unfold canonH
        rw [hcs.2]
        rw [getD_replicate_false]
        simp only [Array.size_replicate, Bool.false_or]
        by_cases hh : hd.contains i = true
        · rw [hh, hall i (by simpa using hh)]; simp [hi]
        · have := List.all_eq_true.1 hpart i (List.mem_range.2 hi)
          simp only [Bool.or_eq_true] at this
          rcases this with h | h
          · exact (hh h).elim
          · rw [hT i (by simpa using h)]; simp only [Bool.not_eq_true] at hh; rw [hh]; rfl
      · rw [Array.getElem?_eq_none (by omega), Array.getElem?_eq_none (by omega)]
    rw [Nat.zero_add]
    refine wpAnyIn_of_seqT tail listed a E.w (by rw [hcan]; exact hseq) (hQ c E a (gam_congr (s := ⟨tm, st1 c, nx1 c⟩) (s1 := ⟨(dW, vW) :: tmF, st1 c, nx1 c⟩) (fun t => ?_) (fun _ => rfl) rfl hG))
    show lkT ((dW, vW) :: tmF) t = lkT tm t
    rw [htm, lkT]
    by_cases htw : t = dW
    · rw [if_pos htw, if_pos ⟨rfl, htw⟩]
    · rw [if_neg htw, if_neg (fun h => htw h.2)]
      by_cases hw : ((pickOps l (hd.filter (fun i => i != iw))).any fun p => p.2.dst == some t && listed.getD p.1 false) = true
      · rw [if_pos hw]
      · rw [if_neg hw, f1 t (fun p hp e => hw (List.any_eq_true.2 ⟨p, hp, by simp [e, hall p.1 (hmN.1 (pickOps_mem.1 hp).1).1]⟩))]
  | succ F ih =>
    intro co listed tm E a inv hT hcnt hco htm hG
    have hsz : listed.size = l.length := by rw [inv.size]; simp
    rw [show F + 1 + tail.length = (F + tail.length) + 1 by omega]
    obtain ⟨k, hk, hku⟩ : ∃ k, k ∈ hd ∧ listed.getD k false = false := by
      have : 0 < hd.countP (fun i => !listed.getD i false) := by omega
      obtain ⟨k, h1, h2⟩ := List.countP_pos_iff.1 this
      exact ⟨k, h1, by simpa using h2⟩
    have hkl : k < l.length := by have := List.all_eq_true.1 hlt k hk; simpa using this
    have hku' : listed.getD k true = false := getD_in (by omega) hku
    refine ⟨fun hr => ?_, fun i hi => ?_⟩
    · obtain ⟨m, ⟨hm1, hm2⟩, hm3⟩ := exists_min (p := fun m => m < l.length ∧ listed.getD m false = false) ⟨k, hkl, hku⟩
      have : m ∈ Region.ready .any l.toArray listed := by
        refine mem_ready.2 ⟨getD_in (by omega) hm2, l[m], by simp [hm1], fun e he hb => ?_⟩
        have h1 := List.all_eq_true.1 hedge m (List.mem_range.2 hm1)
        rw [List.getElem?_eq_getElem hm1] at h1
        have h2 := List.all_eq_true.1 h1 e (by simpa using he)
        rw [hb] at h2
        simp at h2
        cases hc : listed.getD e.on false with
        | true => rfl
        | false => exact (hm3 e.on h2 ⟨by omega, hc⟩).elim
      rw [hr] at this
      cases this
    · have hih := sink_spec hsink inv (i := k) (by simpa using hkl) (by simpa using hk) hku' hi
      have hi' : i ∈ hd := by simpa using hih
      obtain ⟨hiun, o, ho, hafter⟩ := mem_ready.1 hi
      have hol : l[i]? = some o := by simpa using ho
      have hil : i < l.length := (List.getElem?_eq_some_iff.1 hol).1
      have hiun' := getD_both hiun
      have hopk := List.all_eq_true.1 hN o (List.mem_of_getElem? hol)
      have inv2 := inv.set hi
      have hself : (listed.setIfInBounds i true).getD i false = true := by simp [hsz, hil]
      have hoth : ∀ j, j ≠ i → (listed.setIfInBounds i true).getD j false = listed.getD j false := fun j hj => getD_set_ne false (Ne.symm hj)
      have hT2 : ∀ t ∈ tail, (listed.setIfInBounds i true).getD t false = false := fun t ht => by
        rw [hoth t (fun e => by have := htl' t ht; rw [e] at this; rw [this] at hih; cases hih)]; exact hT t ht
      have hcnt2 : hd.countP (fun j => !(listed.setIfInBounds i true).getD j false) = F := by
        have := countP_set hnd' hi' (f := fun j => !listed.getD j false) (g := fun j => !(listed.setIfInBounds i true).getD j false) (by simp [hiun']) (by simp [hself]) (fun j hj => by rw [hoth j hj])
        omega
      have hdN : ∀ t, o.dst = some t → t < B.N := fun t e => by
        have : (match o.dst with | some d => decide (d < B.N) | none => true) = true := by
          simp only [opOk, Bool.and_eq_true] at hopk; exact hopk.2
        rw [e] at this
        simpa using this
      by_cases hiw : i = iw
      · -- the append
        subst hiw
        rw [hol] at hwok
        simp only [Bool.and_eq_true] at hwok
        obtain ⟨hwd, hwl⟩ := hwok
        have hwd' : o.dst = some dW := by simpa using hwd
        rw [hiun'] at hco
        have hcn : co = none := by cases co with
          | none => rfl
          | some c => cases hco
        subst hcn
        have hag : ∀ t ∈ o.looksAt l.toArray, lkT tm t = lkT tmF t := fun t ht => by
          rw [htm, if_neg (fun h => by cases h.1)]
          by_cases hw : ((pickOps l (hd.filter (fun j => j != i))).any fun p => p.2.dst == some t && listed.getD p.1 false) = true
          · rw [if_pos hw]
          · rw [if_neg hw]
            refine (f1 t (fun q hq hqt => hw (List.any_eq_true.2 ⟨q, hq, ?_⟩))).symm
            have h0 := List.all_eq_true.1 hwl t ht
            simp only [Bool.and_eq_true] at h0
            have h1 := List.all_eq_true.1 h0.2 q hq
            simp only [Bool.or_eq_true, bne_iff_ne, ne_eq] at h1
            rcases h1 with h | h
            · exact (h hqt).elim
            · have := reach_listed inv _ _ _ h (fun o' ho' e he hb => by
                have : o' = o := Option.some.inj (ho'.symm.trans ho)
                subst this
                exact hafter e he hb)
              simp [hqt, this]
        obtain ⟨hw, h1⟩ := hwr o hol tm E a hG hag
        unfold wpOpIn
        simp only [ho, hw, if_true]
        refine h1 _ fun c E' a' hG' => ?_
        refine ih (some c) _ _ E' a' inv2 hT2 hcnt2 (by rw [hself]; rfl) (fun t => ?_) hG'
        rw [lkT_put, htm]
        by_cases htw : t = dW
        · rw [if_pos (by rw [htw]), if_pos ⟨rfl, htw⟩]
        · rw [if_neg (show ¬ some dW = some t from fun h => htw (by injection h with h; exact h.symm)), if_neg (show ¬ ((none : Option ι).isSome = true ∧ t = dW) from fun h => htw h.2), if_neg (show ¬ ((some c : Option ι).isSome = true ∧ t = dW) from fun h => htw h.2)]
          have e : ((pickOps l (hd.filter (fun j => j != i))).any fun p => p.2.dst == some t && (listed.setIfInBounds i true).getD p.1 false) = ((pickOps l (hd.filter (fun j => j != i))).any fun p => p.2.dst == some t && listed.getD p.1 false) := by
            rw [Bool.eq_iff_iff, List.any_eq_true, List.any_eq_true]
            constructor
            · rintro ⟨p, hp, h⟩
              rw [hoth p.1 (hmN.1 (pickOps_mem.1 hp).1).2] at h
              exact ⟨p, hp, h⟩
            · rintro ⟨p, hp, h⟩
              refine ⟨p, hp, ?_⟩
              rw [hoth p.1 (hmN.1 (pickOps_mem.1 hp).1).2]
              exact h
          rw [e]
      have hmem : (i, o) ∈ pickOps l (hd.filter (fun i => i != iw)) := pickOps_mem.2 ⟨hmN.2 ⟨hi', hiw⟩, hol⟩
      have hd1W := hdst' _ hmem
      simp only at hd1W
      obtain ⟨nq, hnq⟩ : ∃ nq, nq = selN nx0 nx1 co := ⟨_, rfl⟩
      rw [← hnq] at hG
      have hst : ∀ n b, lkB stH n = some b → lkB (selS st0 st1 co) n = some b := fun n b hb => by
        cases co with
        | none => exact hs0 n b hb
        | some c => exact hs1 c n b hb
      obtain ⟨_, _, f3⟩ := hrun_facts _ _ _ hincr (hrun nq)
      obtain ⟨tmi, v, x, g1, g2, g3, g4, g5⟩ := f3 (i, o) hmem
      simp only at g1 g2 g3 g4 g5
      have g3 : x = none := (g3 rfl).symm
      subst g3
      -- what it looks at is as it was evaluated
      have hag : ∀ t ∈ o.looksAt l.toArray, lkT tm t = tmi t := fun t ht => by
        have hd1 := List.all_eq_true.1 hdep (i, o) hmem
        have hd2 := List.all_eq_true.1 hd1 t ht
        simp only [Bool.and_eq_true] at hd2
        obtain ⟨hd0, hd2⟩ := hd2
        have hd0 : t ≠ dW := by simpa using hd0
        rw [htm, if_neg (fun h => hd0 h.2)]
        by_cases hw : ((pickOps l (hd.filter (fun i => i != iw))).any fun p => p.2.dst == some t && listed.getD p.1 false) = true
        · rw [if_pos hw]
          obtain ⟨q, hq, hq2⟩ := List.any_eq_true.1 hw
          simp only [Bool.and_eq_true, beq_iff_eq] at hq2
          have hd3 := List.all_eq_true.1 hd2 q hq
          simp only [Bool.or_eq_true, bne_iff_ne, ne_eq] at hd3
          rcases hd3 with h | h
          · exact (h hq2.1).elim
          · by_cases hlt2 : q.1 < i
            · exact (g4 t q hq hlt2 hq2.1).symm
            · rw [if_neg hlt2] at h
              simp only [Bool.and_eq_true, decide_eq_true_eq] at h
              have := reach_listed inv _ _ _ h.2 (fun o' ho' e he hb => inv.closed q.1 o' ho' hq2.2 e he hb)
              rw [hiun'] at this
              cases this
        · rw [if_neg hw]
          refine (g5 t (fun q hq hql hqt => hw (List.any_eq_true.2 ⟨q, hq, ?_⟩))).symm
          have hd3 := List.all_eq_true.1 hd2 q hq
          simp only [Bool.or_eq_true, bne_iff_ne, ne_eq] at hd3
          rcases hd3 with h | h
          · exact (h hqt).elim
          · rw [if_pos hql] at h
            have := reach_listed inv _ _ _ h (fun o' ho' e he hb => by
              have : o' = o := Option.some.inj (ho'.symm.trans ho)
              subst this
              exact hafter e he hb)
            simp [hqt, this]
      have hfresh : lkB (selS st0 st1 co) (nq + i) = none := hG.1.none_of_fresh (show nq ≤ nq + i by omega)
      obtain ⟨h1, h2⟩ := g1 _ _ _ E a hG.1 hG.2 (show nq ≤ nq + i by omega) hst hag
      have hoiw : (listed.setIfInBounds i true).getD iw false = listed.getD iw false := hoth iw (fun e => hiw e.symm)
      have htm2 : ∀ t, lkT (put o.dst v tm) t = (if co.isSome = true ∧ t = dW then vW else if ((pickOps l (hd.filter (fun i => i != iw))).any fun p => p.2.dst == some t && (listed.setIfInBounds i true).getD p.1 false) = true then lkT tmF t else lkT tm0 t) := fun t => by
        rw [lkT_put, htm]
        by_cases hd1 : o.dst = some t
        · rw [if_pos hd1, if_neg (fun h => hd1W (by rw [← h.2]; exact hd1)), if_pos (List.any_eq_true.2 ⟨(i, o), hmem, by simp [hd1, hself]⟩), g2 t hd1]
        · rw [if_neg hd1]
          have : ((pickOps l (hd.filter (fun i => i != iw))).any fun p => p.2.dst == some t && (listed.setIfInBounds i true).getD p.1 false) = ((pickOps l (hd.filter (fun i => i != iw))).any fun p => p.2.dst == some t && listed.getD p.1 false) := by
            rw [Bool.eq_iff_iff, List.any_eq_true, List.any_eq_true]
            constructor
            · rintro ⟨p, hp, h⟩
              simp only [Bool.and_eq_true, beq_iff_eq] at h
              have hpi : p.1 ≠ i := fun e => by
                have := (pickOps_mem.1 hp).2
                rw [e, hol] at this
                injection this with this
                rw [← this] at h
                exact hd1 h.1
              rw [hoth p.1 hpi] at h
              exact ⟨p, hp, by simp [h.1, h.2]⟩
            · rintro ⟨p, hp, h⟩
              simp only [Bool.and_eq_true, beq_iff_eq] at h
              exact ⟨p, hp, by simp [h.1, getD_set_true h.2]⟩
          rw [this]
      unfold wpOpIn
      simp only [ho]
      cases hw : Region.wanted o (yielded l.toArray a.tmps) with
      | true =>
        rw [if_pos rfl]
        refine (h1 hw).wpIn ?_
        rintro u w' ⟨E', rfl, hS', hext, hdp, hv⟩
        refine ih co _ (put o.dst v tm) E' _ inv2 hT2 hcnt2 (by rw [hoiw]; exact hco) htm2 ?_
        rw [← hnq]
        exact ⟨hS'.congr (fun n => by
          by_cases hn : n = nq + i
          · rw [if_pos hn, hn]; exact hfresh
          · rw [if_neg hn]) (fun n hn => ⟨hn, fun h => by cases h⟩), (hG.2.ext hext hdp).put hv hdN⟩
      | false =>
        rw [if_neg (by simp)]
        obtain ⟨_, hv⟩ := h2 hw
        refine ⟨fun _ _ => trivial, ih co _ (put o.dst v tm) E _ inv2 hT2 hcnt2 (by rw [hoiw]; exact hco) htm2 ?_⟩
        rw [← hnq]
        exact ⟨hG.1, hG.2.put hv hdN⟩
def callN (ops : Array Oper) (o : Option Oper) (tm : List (Nat × V)) (K : FuncId → List V → Prop) : Prop := match o with
  | some o => match o.op with
    | .call ⟨.value (.func f), asA, _⟩ => (match o.guard with | none => True | some g => gOf ops (lkT tm) g = some true) ∧ allP (stripP true) (asA.toList.map (ev (lkT tm))) ∧ K f (asA.toList.map fun x => strip (ev (lkT tm) x))
    | _ => False
  | none => False
theorem callN_ok {ι : Type} {ops : Array Oper} {l : List Oper} (hops : ops = l.toArray) {iw dW : Nat} {TM : List (Nat × V)} {s : St} {st1 : ι → List (Nat × Blk)} {nx1 : ι → Nat} {vW : V} {Q : Exit → Act → World → Prop} (hl : (l.all (opOk B.N)) = true) (hdW : ∀ o, l[iw]? = some o → o.dst = some dW)
    (h : callN ops l[iw]? TM (fun f vs => ∀ tm, callI P B f vs (some dW) ⟨tm, s.st, s.nx⟩ (fun s' => ∃ c, s' = ⟨put (some dW) vW tm, st1 c, nx1 c⟩) ⟨⟩)) :
    ∀ ow, l[iw]? = some ow → ∀ (tm : List (Nat × V)) (E : Env) (a : Act), Gam P B ⟨tm, s.st, s.nx⟩ E a → (∀ t ∈ ow.looksAt l.toArray, lkT tm t = lkT TM t) →
      Region.wanted ow (yielded l.toArray a.tmps) = true ∧ ∀ N : Act → World → Prop, (∀ c E' a', Gam P B ⟨put (some dW) vW tm, st1 c, nx1 c⟩ E' a' → N a' E'.w) → ow.wpIn (fen B.r) 0 P a E.w N Q := by
  subst hops
  intro ow how tm E a hG hag
  rw [how] at h
  simp only [callN] at h
  split at h <;> try exact h.elim
  rename_i f asA ts hop
  obtain ⟨hg, hp, h⟩ := h
  have hok := List.all_eq_true.1 hl ow (List.mem_of_getElem? how)
  have hm := opOk_mem hok
  have hops0 : ∀ o ∈ l.toArray.toList, opOk B.N o = true := fun o ho => List.all_eq_true.1 hl o (by simpa using ho)
  refine ⟨?_, fun N hN => ?_⟩
  · cases hgd : ow.guard with
    | none => simp [Region.wanted, hgd]
    | some g =>
      rw [hgd] at hg
      have hg : gOf l.toArray (lkT TM) g = some true := hg
      have hgo : gOf l.toArray (lkT tm) g = some true := by
        rw [← hg]
        unfold gOf
        cases hd : (l.toArray[g.1]?).bind (·.dst) with
        | none => rfl
        | some d =>
          have : d ∈ ow.looksAt l.toArray := by
            unfold Oper.looksAt
            rw [hgd]
            refine List.mem_append.2 (.inr ?_)
            simp only [hd]
            simp
          simp only [hag d this]
      exact gOf_okF (o := ow) hops0 hgo hG.2 hgd
  · refine slot_ok (P := P) (B := B) (o := ow) (s := ⟨tm, s.st, s.nx⟩) (x := .func f) (asA := asA) (ts := ts) (K := fun s' => ∃ c, s' = ⟨put (some dW) vW tm, st1 c, nx1 c⟩ ) (Q := Q) (N := N) hop (fv := .d (.c (.func (.func f) #[] #[]))) (vs := asA.toList.map fun x => strip (ev (lkT TM) x)) (fun E a _ => by simp only [RV, RD]; rfl) ?_ ?_ (fun s' E' a' ⟨c, e⟩ hG' => by subst e; exact hN c E' a' hG') E a hG
    · intro E a hG
      refine RVL.of_forall (e := fun x => strip (ev (lkT TM) x)) _ fun x hx => ?_
      have hxo : x ∈ ow.op.operands := by simp only [hop, Op.operands, Call.operands]; simp [Array.mem_toList_iff.1 hx]
      have rx := ev_ok hG.2 x (hm x hxo)
      rw [ev_congr (ops := l.toArray) hag hxo] at rx
      exact strip_ok (b := true) rfl (allP_mem hp _ (List.mem_map_of_mem hx)) rx
    · rw [hdW ow how]
      exact ⟨⟨rfl, rfl⟩, h tm⟩
theorem aw_drawnN {ι : Type} (iw dW : Nat) (hd tl : List Nat) (TM : List (Nat × V)) (stH : List (Nat × Blk)) (st1 : ι → List (Nat × Blk)) (nx1 : ι → Nat) (vW : V) {id : Nat} {ops : Array Oper} {s : St} {Q : AQ} (hT : TabOk P T) (hm : P.follows .mixedOrders = true) (hl : (ops.toList.all (opOk B.N)) = true) (hok : drawOkN ops.toList (iw :: hd) tl iw dW = true)
    (hh : (iw :: hd).filter (fun i => i != iw) = hd) (hs0 : lessB stH s.st) (hs1 : ∀ c, lessB stH (st1 c))
    (h1 : ∀ nx, hwp P T ops stH nx (pickOps ops.toList hd) s.tm [] (fun tm nb => tm = TM ∧ nb = []))
    (h2 : callN ops ops.toList[iw]? TM (fun f vs => ∀ tm, callI P B f vs (some dW) ⟨tm, s.st, s.nx⟩ (fun s' => ∃ c, s' = ⟨put (some dW) vW tm, st1 c, nx1 c⟩) ⟨⟩))
    (h3 : ∀ c, rwp P B T ops ((pickOps ops.toList tl).map (·.2)) ⟨(dW, vW) :: TM, st1 c, nx1 c⟩ (Q .normal)) : AW P B (.region id ops true) Q ⟨⟩ s := fun E a hG => by
  obtain ⟨l, rfl⟩ : ∃ l : List Oper, ops = l.toArray := ⟨ops.toList, by simp⟩
  simp only [List.toList_toArray] at hl hok hh h1 h2 h3
  have hops0 : ∀ o ∈ l.toArray.toList, opOk B.N o = true := fun o ho => List.all_eq_true.1 hl o (by simpa using ho)
  have hc : ((pickOps l hd).all fun p => p.2.op.operands.toList.all (constOk B.N)) = true := List.all_eq_true.2 fun p hp => by
    have := List.all_eq_true.1 hl p.2 (List.mem_of_getElem? (pickOps_mem.1 hp).2)
    simp only [opOk, Bool.and_eq_true] at this
    exact this.1
  have hrun : ∀ nx, HRun P B l.toArray stH nx TM [] (pickOps l hd) s.tm [] := fun nx => by
    obtain ⟨tmF, nbF, ⟨rfl, rfl⟩, hr⟩ := hwp_ok (B := B) hT hops0 _ _ _ hc (h1 nx)
    exact hr
  have hG' := gam_drew hG
  refine wpIn_region_any hm ?_
  have htail : ((pickOps l tl).map (·.2)).all (opOk B.N) = true := List.all_eq_true.2 fun o ho => by
    obtain ⟨p, hp, rfl⟩ := List.mem_map.1 ho
    exact List.all_eq_true.1 hl p.2 (List.mem_of_getElem? (pickOps_mem.1 hp).2)
  have hlen : (iw :: hd).length + tl.length = l.length := by
    have := hok
    simp only [drawOkN, Bool.and_eq_true, decide_eq_true_eq] at this
    exact this.1.1.1.2
  have hdW : ∀ o, l[iw]? = some o → o.dst = some dW := fun o ho => by
    have := hok
    simp only [drawOkN, Bool.and_eq_true] at this
    have h := this.2
    rw [ho] at h
    simp only [Bool.and_eq_true, beq_iff_eq] at h
    exact h.1
  rw [← hh] at hrun
  have := wpAny_headsN (Q := AQQ P B Q) (ι := ι) (nx0 := s.nx) (nx1 := nx1) (vW := vW) hok hrun hl hs0 hs1 (callN_ok rfl hl hdW h2)
    (fun c E a hG => rwp_list hT hops0 _ _ _ htail (h3 c) (fun s' hs E a hG => ⟨E, s', rfl, hG, hs⟩) E a hG) (iw :: hd).length none (Array.replicate l.toArray.size false) s.tm ⟨E.η, E.F, { E.w with drawn := E.w.drawn + 1 }, E.dp⟩ a
    ⟨by simp, fun j oj _ hl => (by rw [getD_replicate_false] at hl; cases hl)⟩ (fun t _ => getD_replicate_false _ _) (by
      rw [List.countP_eq_length]; intro i _; rw [getD_replicate_false]; rfl) (by rw [getD_replicate_false]; rfl)
    (fun t => by
      have : ((pickOps l ((iw :: hd).filter (fun i => i != iw))).any fun p => p.2.dst == some t && (Array.replicate l.toArray.size false).getD p.1 false) = false := by
        rw [List.any_eq_false]; intro p _; rw [getD_replicate_false]; simp
      rw [this, if_neg (fun h => by cases h.1), if_neg (by simp)]) hG'
  rw [hlen] at this
  simpa using this
theorem callI_args {f : FuncId} {vs vs' : List V} {d : Option Tmp} {s : St} {K : St → Prop} (hv : ∀ E us, RVL E vs us → RVL E vs' us) (h : callI P B f vs' d s K ⟨⟩) : callI P B f vs d s K ⟨⟩ :=
  ⟨h.1, fun E a us hG hu => h.2 E a us hG (hv E us hu)⟩
theorem callK_skipF {st : Nat → Option Blk} {nm : Nat} {f : FuncId} {vs : List V} {K : HK} {asA : List A} {r : Ret} (hp : plR r = true) (ha : FzA P st vs asA) (hf : (P.funcs[f]?).any (fun fn => fn.name != "runtime.NumGoroutine" && fn.body.isSome) = true) (hK : K (ofRet r) none) : callK P False st nm f vs K ⟨⟩ :=
  .inr (.inr (.inl ⟨asA, r, ha, False.elim, hf, hp, hK⟩))
end
end Go.Proofs.Ytlnkmaejiceloaa

