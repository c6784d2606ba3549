import Derived.Test.YtfmefdeldgmhpaaR2
import Derived.Laws.StructEq
import Derived.WideKeyPair
import Derived.Maps.Keyed
import Derived.Test.YtfmefdeldgmhpaaR1
import Derived.Test.YtfmefdeldgmhpaaProg
namespace Go.Proofs.Ytfmefdeldgmhpaa
set_option linter.unusedVariables false
set_option linter.unusedSimpArgs false
open Go.RowKit
def canonH (n : Nat) (hd : List Nat) : Array Bool := hd.foldl (fun a i => a.setIfInBounds i true) (Array.replicate n false)
/-- whether one walk, the head in the order of the text, then the tail, serves every order -/
def drawOk (l : List Oper) (hd tail : List Nat) : Bool :=
  sinkT .any l.toArray (fun i => hd.contains i) && tail.all (fun t => !hd.contains t) && (List.range l.length).all (fun i => hd.contains i || tail.contains i) && hd.all (fun i => decide (i < l.length)) && decide hd.Nodup &&
  (List.range l.length).all (fun i => match l[i]? with | some o => o.after.toList.all fun e => !Region.binds .any e || decide (e.on < i) | none => true) && incr (pickOps l hd) &&
  (pickOps l hd).all (fun p => (p.2.looksAt l.toArray).all fun t => (pickOps l hd).all fun q => q.2.dst != some t || (if q.1 < p.1 then reachB .any l.toArray l.length p.1 q.1 else decide (p.1 < q.1) && reachB .any l.toArray l.length q.1 p.1)) &&
  seqT .any l.toArray tail (canonH l.length hd) && decide (hd.length + tail.length = l.length)
theorem foldl_canon : ∀ (hd : List Nat) (a : Array Bool) (i : Nat), (hd.foldl (fun a i => a.setIfInBounds i true) a).size = a.size ∧ (hd.foldl (fun a i => a.setIfInBounds i true) a).getD i false = (a.getD i false || (hd.contains i && decide (i < a.size)))
  | [], a, i => by simp
  | k :: hd, a, i => by
    obtain ⟨h1, h2⟩ := foldl_canon hd (a.setIfInBounds k true) i
    refine ⟨by rw [List.foldl_cons, h1]; simp, ?_⟩
    rw [List.foldl_cons, h2, Array.size_setIfInBounds]
    by_cases hk : k = i
    · subst hk
      by_cases hl : k < a.size
      · have : (a.setIfInBounds k true).getD k false = true := by simp [hl]
        rw [this]; simp [hl]
      · have : (a.setIfInBounds k true).getD k false = a.getD k false := by simp [Array.getD_eq_getD_getElem?, Array.getElem?_eq_none (show a.size ≤ k by omega), Array.getElem?_setIfInBounds, hl]
        rw [this]; simp [hl]
    · rw [getD_set_ne false hk]
      have : (k :: hd).contains i = hd.contains i := by simp [List.contains_cons, Ne.symm hk]
      rw [this]
theorem pickOps_mem {l : List Oper} : ∀ {hd : List Nat} {p : Nat × Oper}, p ∈ pickOps l hd ↔ p.1 ∈ hd ∧ l[p.1]? = some p.2
  | [], p => by simp [pickOps]
  | i :: hd, p => by
    unfold pickOps
    cases h : l[i]? with
    | none =>
      simp only
      rw [pickOps_mem]
      constructor
      · rintro ⟨h1, h2⟩; exact ⟨by simp [h1], h2⟩
      · rintro ⟨h1, h2⟩
        rcases List.mem_cons.1 h1 with e | h1
        · rw [e, h] at h2; cases h2
        · exact ⟨h1, h2⟩
    | some o =>
      simp only [List.mem_cons]
      rw [pickOps_mem]
      constructor
      · rintro (rfl | ⟨h1, h2⟩)
        · exact ⟨.inl rfl, h⟩
        · exact ⟨.inr h1, h2⟩
      · rintro ⟨h1 | h1, h2⟩
        · rw [h1, h] at h2; cases h2
          exact .inl (by cases p; simp at h1 ⊢; exact h1)
        · exact .inr ⟨h1, h2⟩
theorem countP_set {hd : List Nat} (hn : hd.Nodup) {i : Nat} (hi : i ∈ hd) {f g : Nat → Bool} (hf : f i = true) (hg : g i = false) (ho : ∀ j, j ≠ i → g j = f j) : hd.countP f = hd.countP g + 1 := by
  induction hd with
  | nil => cases hi
  | cons k hd ih =>
    rw [List.nodup_cons] at hn
    rw [List.countP_cons, List.countP_cons]
    by_cases hk : k = i
    · subst hk
      have : hd.countP f = hd.countP g := List.countP_congr fun j hj => by rw [ho j (fun e => hn.1 (by rw [← e]; exact hj))]
      rw [this, hf, hg]; simp
    · have hi' : i ∈ hd := by
        rcases List.mem_cons.1 hi with e | h
        · exact (hk e.symm).elim
        · exact h
      rw [ih hn.2 hi', ho k hk]; omega
section
variable {P : Program} {B : Base} {T : Tab}
theorem exists_min {p : Nat → Prop} (h : ∃ n, p n) : ∃ n, p n ∧ ∀ m, m < n → ¬ p m := by
  obtain ⟨n, hn⟩ := h
  induction n using Nat.strongRecOn with
  | _ n ih =>
    by_cases h2 : ∃ m, m < n ∧ p m
    · obtain ⟨m, h3, h4⟩ := h2; exact ih m h3 h4
    · exact ⟨n, hn, fun m hm hp => h2 ⟨m, hm, hp⟩⟩
theorem wpAnyIn_of_seqT {r : Option Nat} {md : Region.Mode} {l : List Oper} {Q : Exit → Act → World → Prop} : ∀ (ts : List Nat) (listed : Array Bool) (a : Act) (w : World), seqT md l.toArray ts listed = true → wpListIn (fen r) 0 P l.toArray Q ((pickOps l ts).map (·.2)) a w → wpAnyIn (fen r) 0 P md l.toArray Q ts.length listed a w
  | [], _, _, _, hB, h => ⟨by simpa [seqT] using hB, h⟩
  | t :: ts, listed, a, w, hB, h => by
    simp only [seqT, Bool.and_eq_true, decide_eq_true_eq] at hB
    refine ⟨fun h1 => (by rw [hB.1] at h1; cases h1), fun i hi => ?_⟩
    have hi0 := hi
    rw [hB.1] at hi
    have hik : i = t := by simpa using hi
    subst hik
    obtain ⟨_, o, ho, _⟩ := mem_ready.1 hi0
    have ho' : l[i]? = some o := by simpa using ho
    have hp : pickOps l (i :: ts) = (i, o) :: pickOps l ts := by simp only [pickOps, ho']
    rw [hp, List.map_cons] at h
    have hw : wpOpIn (fen r) 0 P l.toArray Q i (wpListIn (fen r) 0 P l.toArray Q ((pickOps l ts).map (·.2))) a w := by unfold wpOpIn; simp only [ho]; exact h
    exact wpOpIn_mono (fun a' w' h' => wpAnyIn_of_seqT ts _ a' w' hB.2 h') hw
theorem wpAny_heads {l : List Oper} {hd tail : List Nat} {Q : Exit → Act → World → Prop} {tm0 tmF : List (Nat × V)} {st0 nbF : List (Nat × Blk)} {nx : Nat} (hok : drawOk l hd tail = true) (hrun : HRun P B l.toArray st0 nx tmF nbF (pickOps l hd) tm0 []) (hN : (l.all (opOk B.N)) = true)
    (hst0 : ∀ n, nx ≤ n → lkB st0 n = none)
    (hQ : ∀ E a, Gam P B ⟨tmF, nbF ++ st0, nx + l.length⟩ E a → wpListIn (fen B.r) 0 P l.toArray Q ((pickOps l tail).map (·.2)) a E.w) :
    ∀ (F : Nat) (listed : Array Bool) (E : Env) (a : Act), GInv .any l.toArray listed → (∀ t ∈ tail, listed.getD t false = false) → hd.countP (fun i => !listed.getD i false) = F →
      GamS P B (fun n => if nx ≤ n then (if listed.getD (n - nx) false = true then lkB nbF n else none) else lkB st0 n) (fun n => nx ≤ n ∧ (listed.getD (n - nx) false = true → lkB nbF n = none)) E →
      GamT B (fun t => if ((pickOps l hd).any fun p => p.2.dst == some t && listed.getD p.1 false) = true then lkT tmF t else lkT tm0 t) E a → wpAnyIn (fen B.r) 0 P .any l.toArray Q (F + tail.length) listed a E.w := by
  simp only [drawOk, Bool.and_eq_true] at hok
  obtain ⟨⟨⟨⟨⟨⟨⟨⟨⟨hsink, htl⟩, hpart⟩, hlt⟩, hnd⟩, hedge⟩, hincr⟩, hdep⟩, hseq⟩, _⟩ := hok
  obtain ⟨f1, f2, f3⟩ := hrun_facts _ _ _ hincr hrun
  have hnd' : hd.Nodup := by simpa using hnd
  have htl' : ∀ t ∈ tail, hd.contains t = false := fun t ht => by have := List.all_eq_true.1 htl t ht; simpa using this
  intro F
  induction F with
  | zero =>
    intro listed E a inv hT hcnt hS hGT
    have hall : ∀ i ∈ hd, listed.getD i false = true := fun i hi => by
      have := List.countP_eq_zero.1 hcnt i hi
      simpa using this
    have hsz : listed.size = l.length := by rw [inv.size]; simp
    have hcan : listed = canonH l.length hd := by
      refine Array.ext_getElem? fun i => ?_
      have hcs := (foldl_canon hd (Array.replicate l.length false) i)
      have hcsz : (canonH l.length hd).size = l.length := by unfold canonH; rw [hcs.1]; simp
      by_cases hi : i < l.length
      · have e1 : listed[i]? = some (listed.getD i false) := by simp [Array.getD_eq_getD_getElem?, hsz, hi]
        have e2 : (canonH l.length hd)[i]? = some ((canonH l.length hd).getD i false) := by simp [Array.getD_eq_getD_getElem?, hcsz, hi]
        rw [e1, e2]
        congr 1
        unfold canonH
        rw [hcs.2]
        rw [getD_replicate_false]
        simp only [Array.size_replicate, Bool.false_or]
        by_cases hh : hd.contains i = true
        · rw [hh, hall i (by simpa using hh)]; simp [hi]
        · have := List.all_eq_true.1 hpart i (List.mem_range.2 hi)
          simp only [Bool.or_eq_true] at this
          rcases this with h | h
          · exact (hh h).elim
          · rw [hT i (by simpa using h)]; simp only [Bool.not_eq_true] at hh; rw [hh]; rfl
      · rw [Array.getElem?_eq_none (by omega), Array.getElem?_eq_none (by omega)]
    rw [Nat.zero_add]
    refine wpAnyIn_of_seqT tail listed a E.w (by rw [hcan]; exact hseq) (hQ E a ⟨hS.congr (fun n => ?_) (fun n hn => ?_), ⟨fun t => ?_, hGT.defers, hGT.size⟩⟩)
    · -- the blocks
      have hap : lkB (nbF ++ st0) n = match lkB nbF n with | some b => some b | none => lkB st0 n := by
        generalize nbF = nb
        induction nb with
        | nil => rfl
        | cons p nb ih =>
          obtain ⟨k, b⟩ := p
          simp only [List.cons_append, lkB]
          split
          · rfl
          · exact ih
      show lkB (nbF ++ st0) n = _
      rw [hap]
      by_cases hn : nx ≤ n
      · rw [if_pos hn]
        by_cases hh : hd.contains (n - nx) = true
        · rw [if_pos (hall _ (by simpa using hh)), hst0 n hn]; cases lkB nbF n <;> rfl
        · have : lkB nbF n = none := by
            rw [f2 n (fun p hp e => hh ?_)]; rfl
            have := (pickOps_mem.1 hp).1
            rw [e, Nat.add_sub_cancel_left]; simpa using this
          rw [this, hst0 n hn]; simp
      · rw [if_neg hn]
        have : lkB nbF n = none := by
          rw [f2 n (fun p hp e => by omega)]; rfl
        rw [this]
    · have hn' : nx + l.length ≤ n := hn
      refine ⟨by omega, fun h => ?_⟩
      rw [show listed.getD (n - nx) false = false by
        simp [Array.getD_eq_getD_getElem?, Array.getElem?_eq_none (show listed.size ≤ n - nx by omega)]] at h
      cases h
    · have := hGT.tm t
      show RV E (lkT tmF t) _
      by_cases hw : ((pickOps l hd).any fun p => p.2.dst == some t && listed.getD p.1 false) = true
      · rw [if_pos hw] at this; exact this
      · rw [if_neg hw] at this
        rw [f1 t (fun p hp e => hw (List.any_eq_true.2 ⟨p, hp, by simp [e, hall p.1 (pickOps_mem.1 hp).1]⟩))]
        exact this
  | succ F ih =>
    intro listed E a inv hT hcnt hS hGT
    have hsz : listed.size = l.length := by rw [inv.size]; simp
    rw [show F + 1 + tail.length = (F + tail.length) + 1 by omega]
    -- an operation of the head that has not run
    obtain ⟨k, hk, hku⟩ : ∃ k, k ∈ hd ∧ listed.getD k false = false := by
      have : 0 < hd.countP (fun i => !listed.getD i false) := by omega
      obtain ⟨k, h1, h2⟩ := List.countP_pos_iff.1 this
      exact ⟨k, h1, by simpa using h2⟩
    have hkl : k < l.length := by have := List.all_eq_true.1 hlt k hk; simpa using this
    have hku' : listed.getD k true = false := getD_in (by omega) hku
    refine ⟨fun hr => ?_, fun i hi => ?_⟩
    · -- the least that has not run is ready
      obtain ⟨m, ⟨hm1, hm2⟩, hm3⟩ := exists_min (p := fun m => m < l.length ∧ listed.getD m false = false) ⟨k, hkl, hku⟩
      have : m ∈ Region.ready .any l.toArray listed := by
        refine mem_ready.2 ⟨getD_in (by omega) hm2, l[m], by simp [hm1], fun e he hb => ?_⟩
        have h1 := List.all_eq_true.1 hedge m (List.mem_range.2 hm1)
        rw [List.getElem?_eq_getElem hm1] at h1
        have h2 := List.all_eq_true.1 h1 e (by simpa using he)
        rw [hb] at h2
        simp at h2
        cases hc : listed.getD e.on false with
        | true => rfl
        | false => exact (hm3 e.on h2 ⟨by omega, hc⟩).elim
      rw [hr] at this
      cases this
    · have hih := sink_spec hsink inv (i := k) (by simpa using hkl) (by simpa using hk) hku' hi
      have hi' : i ∈ hd := by simpa using hih
      obtain ⟨hiun, o, ho, hafter⟩ := mem_ready.1 hi
      have hol : l[i]? = some o := by simpa using ho
      have hil : i < l.length := (List.getElem?_eq_some_iff.1 hol).1
      have hiun' := getD_both hiun
      have hmem : (i, o) ∈ pickOps l hd := pickOps_mem.2 ⟨hi', hol⟩
      obtain ⟨tmi, v, x, g1, g2, g3, g4, g5⟩ := f3 (i, o) hmem
      simp only at g1 g2 g3 g4 g5
      have g3 := g3 rfl
      have hopk := List.all_eq_true.1 hN o (List.mem_of_getElem? hol)
      -- what it looks at is as it was evaluated
      have hag : ∀ t ∈ o.looksAt l.toArray, (if ((pickOps l hd).any fun p => p.2.dst == some t && listed.getD p.1 false) = true then lkT tmF t else lkT tm0 t) = tmi t := fun t ht => by
        have hd1 := List.all_eq_true.1 hdep (i, o) hmem
        have hd2 := List.all_eq_true.1 hd1 t ht
        by_cases hw : ((pickOps l hd).any fun p => p.2.dst == some t && listed.getD p.1 false) = true
        · rw [if_pos hw]
          obtain ⟨q, hq, hq2⟩ := List.any_eq_true.1 hw
          simp only [Bool.and_eq_true, beq_iff_eq] at hq2
          have hd3 := List.all_eq_true.1 hd2 q hq
          simp only [Bool.or_eq_true, bne_iff_ne, ne_eq] at hd3
          rcases hd3 with h | h
          · exact (h hq2.1).elim
          · by_cases hlt2 : q.1 < i
            · exact (g4 t q hq hlt2 hq2.1).symm
            · rw [if_neg hlt2] at h
              simp only [Bool.and_eq_true, decide_eq_true_eq] at h
              have := reach_listed inv _ _ _ h.2 (fun o' ho' e he hb => inv.closed q.1 o' ho' hq2.2 e he hb)
              rw [hiun'] at this
              cases this
        · rw [if_neg hw]
          refine (g5 t (fun q hq hql hqt => hw (List.any_eq_true.2 ⟨q, hq, ?_⟩))).symm
          have hd3 := List.all_eq_true.1 hd2 q hq
          simp only [Bool.or_eq_true, bne_iff_ne, ne_eq] at hd3
          rcases hd3 with h | h
          · exact (h hqt).elim
          · rw [if_pos hql] at h
            have := reach_listed inv _ _ _ h (fun o' ho' e he hb => by
              have : o' = o := Option.some.inj (ho'.symm.trans ho)
              subst this
              exact hafter e he hb)
            simp [hqt, this]
      have hst : ∀ n b, lkB st0 n = some b → (if nx ≤ n then (if listed.getD (n - nx) false = true then lkB nbF n else none) else lkB st0 n) = some b := fun n b hb => by
        by_cases hn : nx ≤ n
        · rw [hst0 n hn] at hb; cases hb
        · rw [if_neg hn]; exact hb
      obtain ⟨h1, h2⟩ := g1 _ _ _ E a hS hGT ⟨by omega, fun h => by rw [Nat.add_sub_cancel_left, hiun'] at h; cases h⟩ hst hag
      have inv2 := inv.set hi
      have hself : (listed.setIfInBounds i true).getD i false = true := by simp [hsz, hil]
      have hoth : ∀ j, j ≠ i → (listed.setIfInBounds i true).getD j false = listed.getD j false := fun j hj => getD_set_ne false (Ne.symm hj)
      have hT2 : ∀ t ∈ tail, (listed.setIfInBounds i true).getD t false = false := fun t ht => by
        rw [hoth t (fun e => by have := htl' t ht; rw [e] at this; rw [this] at hih; cases hih)]; exact hT t ht
      have hcnt2 : hd.countP (fun j => !(listed.setIfInBounds i true).getD j false) = F := by
        have := countP_set hnd' hi' (f := fun j => !listed.getD j false) (g := fun j => !(listed.setIfInBounds i true).getD j false) (by simp [hiun']) (by simp [hself]) (fun j hj => by rw [hoth j hj])
        omega
      have hσ2 : ∀ n, (if nx ≤ n then (if (listed.setIfInBounds i true).getD (n - nx) false = true then lkB nbF n else none) else lkB st0 n) = if n = nx + i then x else (if nx ≤ n then (if listed.getD (n - nx) false = true then lkB nbF n else none) else lkB st0 n) := fun n => by
        by_cases hn : n = nx + i
        · subst hn
          rw [if_pos rfl, if_pos (by omega), Nat.add_sub_cancel_left, if_pos hself, g3]
        · rw [if_neg hn]
          by_cases hn2 : nx ≤ n
          · rw [if_pos hn2, if_pos hn2, hoth (n - nx) (by omega)]
          · rw [if_neg hn2, if_neg hn2]
      have hfr2 : ∀ n, (nx ≤ n ∧ ((listed.setIfInBounds i true).getD (n - nx) false = true → lkB nbF n = none)) → (nx ≤ n ∧ (listed.getD (n - nx) false = true → lkB nbF n = none)) ∧ (x.isSome = true → n ≠ nx + i) := fun n hn => by
        refine ⟨⟨hn.1, fun h => hn.2 (getD_set_true h)⟩, fun hx e => ?_⟩
        subst e
        have := hn.2 (by rw [Nat.add_sub_cancel_left]; exact hself)
        rw [g3] at this
        rw [this] at hx
        cases hx
      have htm2 : ∀ t, (if ((pickOps l hd).any fun p => p.2.dst == some t && (listed.setIfInBounds i true).getD p.1 false) = true then lkT tmF t else lkT tm0 t) = if o.dst = some t then v else (if ((pickOps l hd).any fun p => p.2.dst == some t && listed.getD p.1 false) = true then lkT tmF t else lkT tm0 t) := fun t => by
        by_cases hd1 : o.dst = some t
        · rw [if_pos hd1, if_pos (List.any_eq_true.2 ⟨(i, o), hmem, by simp [hd1, hself]⟩), g2 t hd1]
        · rw [if_neg hd1]
          have : ((pickOps l hd).any fun p => p.2.dst == some t && (listed.setIfInBounds i true).getD p.1 false) = ((pickOps l hd).any fun p => p.2.dst == some t && listed.getD p.1 false) := by
            rw [Bool.eq_iff_iff, List.any_eq_true, List.any_eq_true]
            constructor
            · rintro ⟨p, hp, h⟩
              simp only [Bool.and_eq_true, beq_iff_eq] at h
              have hpi : p.1 ≠ i := fun e => by
                have := (pickOps_mem.1 hp).2
                rw [e, hol] at this
                injection this with this
                rw [← this] at h
                exact hd1 h.1
              rw [hoth p.1 hpi] at h
              exact ⟨p, hp, by simp [h.1, h.2]⟩
            · rintro ⟨p, hp, h⟩
              simp only [Bool.and_eq_true, beq_iff_eq] at h
              exact ⟨p, hp, by simp [h.1, getD_set_true h.2]⟩
          rw [this]
      have hdN : ∀ t, o.dst = some t → t < B.N := fun t e => by
        have : (match o.dst with | some d => decide (d < B.N) | none => true) = true := by
          simp only [opOk, Bool.and_eq_true] at hopk; exact hopk.2
        rw [e] at this
        simpa using this
      unfold wpOpIn
      simp only [ho]
      cases hw : Region.wanted o (yielded l.toArray a.tmps) with
      | true =>
        rw [if_pos rfl]
        refine (h1 hw).wpIn ?_
        rintro u w' ⟨E', rfl, hS', hext, hdp, hv⟩
        exact ih _ E' _ inv2 hT2 hcnt2 (hS'.congr hσ2 hfr2) ((hGT.ext hext hdp).putF (fun t e => ⟨hv, hdN t e⟩) htm2)
      | false =>
        rw [if_neg (by simp)]
        obtain ⟨rfl, hv⟩ := h2 hw
        have hσn : ∀ n, (if n = nx + i then none else (if nx ≤ n then (if listed.getD (n - nx) false = true then lkB nbF n else none) else lkB st0 n)) = (if nx ≤ n then (if listed.getD (n - nx) false = true then lkB nbF n else none) else lkB st0 n) := fun n => by
          by_cases hn : n = nx + i
          · subst hn; rw [if_pos rfl, if_pos (by omega), Nat.add_sub_cancel_left, hiun', if_neg (by simp)]
          · rw [if_neg hn]
        exact ⟨fun _ _ => trivial, ih _ E _ inv2 hT2 hcnt2 (hS.congr (fun n => (hσ2 n).trans (hσn n)) (fun n hn => (hfr2 n hn).1)) (hGT.putF (fun t e => ⟨hv, hdN t e⟩) htm2)⟩
/-- a region that draws its order -/
def rwpD (P : Program) (B : Base) (T : Tab) (l : List Oper) (hd tail : List Nat) (s : St) (K : St → Prop) : Prop :=
  hwp P T l.toArray s.st s.nx (pickOps l hd) s.tm [] (fun tm nb => rwp P B T l.toArray ((pickOps l tail).map (·.2)) ⟨tm, nb ++ s.st, s.nx + l.length⟩ K)
theorem gam_drew {s : St} {E : Env} {a : Act} (h : Gam P B s E a) : Gam P B s ⟨E.η, E.F, { E.w with drawn := E.w.drawn + 1 }, E.dp⟩ a := by
  have hext : Ext E ⟨E.η, E.F, { E.w with drawn := E.w.drawn + 1 }, E.dp⟩ := ⟨fun _ _ h => h, Ft.le_refl _, .of_blocks (fun _ _ _ => rfl) (fun _ _ => rfl)⟩
  refine ⟨⟨h.1.os, h.1.tape, h.1.output, h.1.size, h.1.old, h.1.F0, h.1.Fc, h.1.Fm, fun n x hx => ?_, h.1.dist, h.1.fresh, h.1.dp⟩, h.2.ext hext rfl⟩
  exact (h.1.st n x hx).keep (fun _ h => h) hext (Nat.le_refl _) (fun _ _ _ _ _ => rfl) (fun _ _ _ _ _ hok => hok)
theorem aw_regionD {id N : Nat} {l : List Oper} {s : St} {Q : AQ} (hd tail : List Nat) (hT : TabOk P T) (hm : P.follows .mixedOrders = true) (hN : B.N = N) (hl : (l.all (opOk N)) = true) (hok : drawOk l hd tail = true) (h : rwpD P B T l hd tail s (Q .normal)) : AW P B (.region id l.toArray true) Q ⟨⟩ s := fun E a hG => by
  subst hN
  have hops0 : ∀ o ∈ l.toArray.toList, opOk B.N o = true := fun o ho => List.all_eq_true.1 hl o (by simpa using ho)
  have hc : ((pickOps l hd).all fun p => p.2.op.operands.toList.all (constOk B.N)) = true := List.all_eq_true.2 fun p hp => by
    have := List.all_eq_true.1 hl p.2 (List.mem_of_getElem? (pickOps_mem.1 hp).2)
    simp only [opOk, Bool.and_eq_true] at this
    exact this.1
  obtain ⟨tmF, nbF, hK, hrun⟩ := hwp_ok (B := B) hT hops0 _ _ _ hc h
  have hG' := gam_drew hG
  have hst0 : ∀ n, s.nx ≤ n → lkB s.st n = none := fun n hn => hG.1.none_of_fresh hn
  refine wpIn_region_any hm ?_
  have htail : ((pickOps l tail).map (·.2)).all (opOk B.N) = true := List.all_eq_true.2 fun o ho => by
    obtain ⟨p, hp, rfl⟩ := List.mem_map.1 ho
    exact List.all_eq_true.1 hl p.2 (List.mem_of_getElem? (pickOps_mem.1 hp).2)
  have := wpAny_heads (Q := AQQ P B Q) hok hrun hl hst0 (fun E a hG => rwp_list hT hops0 _ _ _ htail hK (fun s' hs E a hG => ⟨E, s', rfl, hG, hs⟩) E a hG) hd.length (Array.replicate l.toArray.size false) ⟨E.η, E.F, { E.w with drawn := E.w.drawn + 1 }, E.dp⟩ a
    ⟨by simp, fun j oj _ hl => (by rw [getD_replicate_false] at hl; cases hl)⟩ (fun t _ => getD_replicate_false _ _) (by
      rw [List.countP_eq_length]; intro i _; rw [getD_replicate_false]; rfl)
    (hG'.1.congr (fun n => by
      rw [getD_replicate_false]
      by_cases hn : s.nx ≤ n
      · rw [if_pos hn, if_neg (by simp), hst0 n hn]
      · rw [if_neg hn]) (fun n hn => hn.1))
    ⟨fun t => by
      have : ((pickOps l hd).any fun p => p.2.dst == some t && (Array.replicate l.toArray.size false).getD p.1 false) = false := by
        rw [List.any_eq_false]; intro p _; rw [getD_replicate_false]; simp
      rw [this, if_neg (by simp)]
      exact hG'.2.tm t, hG'.2.defers, hG'.2.size⟩
  have hlen : hd.length + tail.length = l.length := by
    simp only [drawOk, Bool.and_eq_true, decide_eq_true_eq] at hok
    exact hok.2
  rw [hlen] at this
  simpa using this
/-- the operations that write what is there -/
def isT : Op → Bool
  | .store .. => true
  | .mapUpdate .. => true
  | .insert .. => true
  | .call ⟨.builtin .append, _, _⟩ => true
  | .call ⟨.builtin .delete, _, _⟩ => true
  | .call ⟨.builtin .copy, _, _⟩ => true
  | _ => false
def headIdx : Nat → List Oper → List Nat
  | _, [] => []
  | k, o :: l => match isT o.op with
    | true => headIdx (k + 1) l
    | false => k :: headIdx (k + 1) l
def tailIdx : Nat → List Oper → List Nat
  | _, [] => []
  | k, o :: l => match isT o.op with
    | true => k :: tailIdx (k + 1) l
    | false => tailIdx (k + 1) l
def headOps : Nat → List Oper → List (Nat × Oper)
  | _, [] => []
  | k, o :: l => match isT o.op with
    | true => headOps (k + 1) l
    | false => (k, o) :: headOps (k + 1) l
def tailOps : List Oper → List Oper
  | [] => []
  | o :: l => match isT o.op with
    | true => o :: tailOps l
    | false => tailOps l
theorem headOps_eq : ∀ (l pre : List Oper), pickOps (pre ++ l) (headIdx pre.length l) = headOps pre.length l
  | [], pre => rfl
  | o :: l, pre => by
    have ih := headOps_eq l (pre ++ [o])
    simp only [List.append_assoc, List.cons_append, List.nil_append, List.length_append, List.length_cons, List.length_nil, Nat.zero_add] at ih
    have hg : (pre ++ o :: l)[pre.length]? = some o := by simp
    cases ht : isT o.op <;> simp only [headIdx, headOps, ht]
    · simp only [pickOps, hg]; rw [ih]
    · exact ih
theorem tailOps_eq : ∀ (l pre : List Oper), (pickOps (pre ++ l) (tailIdx pre.length l)).map (·.2) = tailOps l
  | [], pre => rfl
  | o :: l, pre => by
    have ih := tailOps_eq l (pre ++ [o])
    simp only [List.append_assoc, List.cons_append, List.nil_append, List.length_append, List.length_cons, List.length_nil, Nat.zero_add] at ih
    have hg : (pre ++ o :: l)[pre.length]? = some o := by simp
    cases ht : isT o.op <;> simp only [tailIdx, tailOps, ht]
    · exact ih
    · simp only [pickOps, hg, List.map_cons]; rw [ih]
theorem aw_drawn {id : Nat} {l : List Oper} {s : St} {Q : AQ} (hT : TabOk P T) (hm : P.follows .mixedOrders = true) (hl : (l.all (opOk B.N)) = true) (hok : drawOk l (headIdx 0 l) (tailIdx 0 l) = true)
    (h : hwp P T l.toArray s.st s.nx (headOps 0 l) s.tm [] (fun tm nb => rwp P B T l.toArray (tailOps l) ⟨tm, nb ++ s.st, s.nx + l.length⟩ (Q .normal))) : AW P B (.region id l.toArray true) Q ⟨⟩ s := by
  refine aw_regionD (headIdx 0 l) (tailIdx 0 l) hT hm rfl hl hok ?_
  unfold rwpD
  have h1 := headOps_eq l []
  have h2 := tailOps_eq l []
  simp only [List.nil_append, List.length_nil] at h1 h2
  rw [h1, h2]
  exact h
theorem aw_drawnA {id : Nat} {ops : Array Oper} {s : St} {Q : AQ} (hT : TabOk P T) (hm : P.follows .mixedOrders = true) (hl : (ops.toList.all (opOk B.N)) = true) (hok : drawOk ops.toList (headIdx 0 ops.toList) (tailIdx 0 ops.toList) = true)
    (h : hwp P T ops s.st s.nx (headOps 0 ops.toList) s.tm [] (fun tm nb => rwp P B T ops (tailOps ops.toList) ⟨tm, nb ++ s.st, s.nx + ops.toList.length⟩ (Q .normal))) : AW P B (.region id ops true) Q ⟨⟩ s :=
  aw_drawn (l := ops.toList) hT hm hl hok h
end
end Go.Proofs.Ytfmefdeldgmhpaa

namespace Go.Proofs.Ytfmefdeldgmhpaa
set_option linter.unusedVariables false
set_option linter.unusedSimpArgs false
open Go.RowKit
/-- names of the new state: what they were called; none: a nil slice -/
abbrev Ren := List (Nat × Option Nat)
def lkN : Ren → Nat → Option (Option Nat)
  | [], _ => none
  | (u, x) :: l, t => if t = u then some x else lkN l t
theorem lkN_n (t : Nat) : lkN [] t = none := rfl
theorem lkN_c (u : Nat) (x : Option Nat) (l : Ren) (t : Nat) : lkN ((u, x) :: l) t = if t = u then some x else lkN l t := rfl
def ren (ρ : Ren) (E : Env) : Env := ⟨fun n => match lkN ρ n with
  | some (some m) => E.η m
  | some none => some (.slice none 0 0)
  | none => none, E.F, E.w, E.dp⟩
def subD : D → D → Prop
  | .c (.slice none 0 0), .sl _ _ es => es = []
  | .sl sz _ es, .sl sz' _ es' => sz = sz' ∧ es = es'
  | x, y => x = y
mutual
def subV (ρ : Ren) : V → V → Prop
  | _, .any => True
  | .d x, .d y => subD x y
  | .ow _ sz _ es, .d (.sl sz' _ es') => sz = sz' ∧ es = es'
  | .d (.c (.slice none 0 0)), .ow n _ _ es => lkN ρ n = some none ∧ es = []
  | .ow m sz _ es, .ow n sz' _ es' => lkN ρ n = some (some m) ∧ sz = sz' ∧ es = es'
  | .ptr m o, .ptr n o' => lkN ρ n = some (some m) ∧ o = o'
  | .mo m, .mo n => lkN ρ n = some (some m)
  | .mp m, .mp n => lkN ρ n = some (some m)
  | .yl m, .yl n => lkN ρ n = some (some m)
  | .elt sz _ es i o, .elt sz' _ es' i' o' => sz = sz' ∧ es = es' ∧ i = i' ∧ o = o'
  | .oel m sz i o, .oel n sz' i' o' => lkN ρ n = some (some m) ∧ sz = sz' ∧ i = i' ∧ o = o'
  | .agg xs, .agg ys => subVs ρ xs ys
  | .tup xs, .tup ys => subVs ρ xs ys
  | .fn f xs, .fn g ys => f = g ∧ subVs ρ xs ys
  | .cond g x, .cond g' y => g = g' ∧ subV ρ x y
  | _, _ => False
def subVs (ρ : Ren) : List V → List V → Prop
  | [], [] => True
  | x :: xs, y :: ys => subV ρ x y ∧ subVs ρ xs ys
  | _, _ => False
end
theorem subD_ok {F : Ft} {w : World} {x y : D} {v : Value} (h : subD x y) (hv : RD F w x v) : RD F w y v := by
  unfold subD at h
  split at h
  · subst h
    simp only [RD] at hv
    subst hv
    exact RD.nil_sl _ _ _ _
  · obtain ⟨rfl, rfl⟩ := h
    simpa only [RD] using hv
  · subst h; exact hv
mutual
theorem subV_ok (ρ : Ren) (E : Env) : ∀ (x y : V) (v : Value), subV ρ x y → RV E x v → RV (ren ρ E) y v
  | x, .any, v, _, _ => by simp only [RV]
  | .d x, .d y, v, h, hv => by simp only [subV] at h; simp only [RV] at hv ⊢; exact subD_ok h hv
  | .ow n sz d0 es, .d (.sl sz' d1 es'), v, h, hv => by
    simp only [subV] at h
    obtain ⟨rfl, rfl⟩ := h
    simp only [RV, RD] at hv ⊢
    exact hv.2
  | .d (.c (.slice none 0 0)), .ow n sz d1 es, v, h, hv => by
    simp only [subV] at h
    obtain ⟨h1, rfl⟩ := h
    simp only [RV, RD] at hv
    subst hv
    simp only [RV]
    exact ⟨by simp [ren, h1], RD.nil_sl _ _ _ _⟩
  | .ow m sz d0 es, .ow n sz' d1 es', v, h, hv => by
    simp only [subV] at h
    obtain ⟨h1, rfl, rfl⟩ := h
    simp only [RV] at hv ⊢
    refine ⟨by simp [ren, h1, hv.1], ?_⟩
    have := hv.2
    simp only [RD] at this ⊢
    exact this
  | .ptr m o, .ptr n o', v, h, hv => by
    simp only [subV] at h
    obtain ⟨h1, rfl⟩ := h
    simp only [RV] at hv ⊢
    obtain ⟨b, h2, h3⟩ := hv
    exact ⟨b, by simp [ren, h1, h2], h3⟩
  | .mo m, .mo n, v, h, hv => by
    simp only [subV] at h
    simp only [RV] at hv ⊢
    exact ⟨by simp [ren, h, hv.1], hv.2⟩
  | .mp m, .mp n, v, h, hv => by
    simp only [subV] at h
    simp only [RV] at hv ⊢
    exact ⟨by simp [ren, h, hv.1], hv.2⟩
  | .yl m, .yl n, v, h, hv => by
    simp only [subV] at h
    simp only [RV] at hv ⊢
    exact ⟨by simp [ren, h, hv.1], hv.2⟩
  | .elt sz _ es i o, .elt sz' _ es' i' o', v, h, hv => by
    simp only [subV] at h
    obtain ⟨rfl, rfl, rfl, rfl⟩ := h
    simp only [RV] at hv ⊢
    exact hv
  | .oel m sz i o, .oel n sz' i' o', v, h, hv => by
    simp only [subV] at h
    obtain ⟨h1, rfl, rfl, rfl⟩ := h
    simp only [RV] at hv ⊢
    obtain ⟨b, l, c, h2, h3⟩ := hv
    exact ⟨b, l, c, by simp [ren, h1, h2], h3⟩
  | .agg xs, .agg ys, v, h, hv => by
    simp only [subV] at h
    simp only [RV] at hv ⊢
    obtain ⟨us, h1, h2, h3⟩ := hv
    exact ⟨us, h1, subVs_ok ρ E xs ys us h h2, h3⟩
  | .tup xs, .tup ys, v, h, hv => by
    simp only [subV] at h
    simp only [RV] at hv ⊢
    obtain ⟨us, h1, h2⟩ := hv
    exact ⟨us, h1, subVs_ok ρ E xs ys us h h2⟩
  | .fn f xs, .fn g ys, v, h, hv => by
    simp only [subV] at h
    obtain ⟨rfl, h⟩ := h
    simp only [RV] at hv ⊢
    obtain ⟨us, h1, h2⟩ := hv
    exact ⟨us, h1, subVs_ok ρ E xs ys us h h2⟩
  | .cond g x, .cond g' y, v, h, hv => by
    simp only [subV] at h
    obtain ⟨rfl, h⟩ := h
    simp only [RV] at hv ⊢
    exact ⟨fun hg => subV_ok ρ E x y v h (hv.1 hg), hv.2⟩
theorem subVs_ok (ρ : Ren) (E : Env) : ∀ (xs ys : List V) (us : List Value), subVs ρ xs ys → RVL E xs us → RVL (ren ρ E) ys us
  | [], [], us, _, hv => by simp only [RVL] at hv ⊢; exact hv
  | x :: xs, y :: ys, us, h, hv => by
    simp only [subVs] at h
    simp only [RVL] at hv ⊢
    obtain ⟨u, r, h1, h2, h3⟩ := hv
    exact ⟨u, r, h1, subV_ok ρ E x y u h.1 h2, subVs_ok ρ E xs ys r h.2 h3⟩
  | [], _ :: _, us, h, _ => by simp only [subVs] at h
  | _ :: _, [], us, h, _ => by simp only [subVs] at h
end
def subM (ρ : Ren) : List (List Int × V) → List (List Int × V) → Prop
  | [], [] => True
  | (c, x) :: l, (c', x') :: l' => (c = c' ∧ subV ρ x x') ∧ subM ρ l l'
  | _, _ => False
theorem subM_map {α : Type} {ρ : Ren} {f : α → List Int × V} (h : ∀ a, subV ρ (f a).2 (f a).2) : ∀ {l l' : List α}, l = l' → subM ρ (l.map f) (l'.map f)
  | [], _, e => by subst e; trivial
  | a :: l, _, e => by subst e; exact ⟨⟨rfl, h a⟩, subM_map h rfl⟩
theorem subM_ok {P : Program} {q : KQ} {k : TypeId} {ρ : Ren} {E : Env} : ∀ {l l' : List (List Int × V)} {ms : List MapEntry}, subM ρ l l' → RMp P q k E ms l → RMp P q k (ren ρ E) ms l' ∧ l.map (·.1) = l'.map (·.1)
  | [], [], [], _, _ => ⟨trivial, rfl⟩
  | (c, x) :: l, (c', x') :: l', e :: ms, h, hm => by
    obtain ⟨⟨rfl, h1⟩, h2⟩ := h
    obtain ⟨h3, h4⟩ := subM_ok h2 hm.2
    exact ⟨⟨⟨hm.1.1, hm.1.2.1, subV_ok ρ E _ _ _ h1 hm.1.2.2⟩, h3⟩, by simp [h4]⟩
  | [], _ :: _, _, h, _ => by simp only [subM] at h
  | _ :: _, [], _, h, _ => by simp only [subM] at h
  | [], [], _ :: _, _, hm => by simp only [RMp] at hm
  | _ :: _, _ :: _, [], _, hm => by simp only [RMp] at hm
def subB (ρ : Ren) : Blk → Blk → Prop
  | .cells t cs, .cells t' cs' => t = t' ∧ subVs ρ cs cs'
  | .tok e sz len, .tok e' sz' len' => e = e' ∧ sz = sz' ∧ len = len'
  | .row e sz _ es, .row e' sz' _ es' => (e = e' ∧ sz = sz' ∧ es.map List.length = es'.map List.length) ∧ subVs ρ es.flatten es'.flatten
  | .map q k zv z0 es, .map q' k' zv' z0' es' => (q = q' ∧ k = k' ∧ zv = zv') ∧ subV ρ z0 z0' ∧ subM ρ es es'
  | .loop L st pe, .loop L' st' pe' => L = L' ∧ st = st' ∧ pe = pe'
  | _, _ => False
def wkT (ρ : Ren) (tm : List (Nat × V)) : List (Nat × V) → Prop
  | [] => True
  | (t, v) :: l => subV ρ (lkT tm t) v ∧ wkT ρ tm l
def wkB1 (ρ : Ren) (st : List (Nat × Blk)) (b : Blk) : Option (Option Nat) → Prop
  | some (some m) => match lkB st m with
    | some b' => subB ρ b' b
    | none => False
  | some none => match b with
    | .tok _ _ len => len = 0
    | _ => False
  | none => False
def wkB (ρ : Ren) (st : List (Nat × Blk)) : List (Nat × Blk) → Prop
  | [] => True
  | (n, b) :: l => wkB1 ρ st b (lkN ρ n) ∧ wkB ρ st l
def injB : Ren → Bool
  | [] => true
  | (u, x) :: l => (l.all fun p => u != p.1 && (x != p.2 || x == none)) && injB l
/-- s may be seen as s1 -/
def Wk (P : Program) (B : Base) (s s1 : St) : Prop := ∀ E a, Gam P B s E a → ∃ E', E'.w = E.w ∧ Gam P B s1 E' a
theorem lkN_mem : ∀ {ρ : Ren} {n : Nat} {x : Option Nat}, lkN ρ n = some x → (n, x) ∈ ρ
  | [], n, x, h => by cases h
  | (u, y) :: l, n, x, h => by
    simp only [lkN] at h
    split at h
    · rename_i e; cases h; subst e; simp
    · exact List.mem_cons_of_mem _ (lkN_mem h)
theorem injB_ok : ∀ {ρ : Ren} {n m k : Nat}, injB ρ = true → lkN ρ n = some (some k) → lkN ρ m = some (some k) → n = m
  | [], n, m, k, _, h, _ => by cases h
  | (u, y) :: l, n, m, k, hi, h1, h2 => by
    simp only [injB, Bool.and_eq_true] at hi
    simp only [lkN] at h1 h2
    split at h1 <;> split at h2
    · rename_i e1 e2; rw [e1, e2]
    · cases h1
      have := List.all_eq_true.1 hi.1 _ (lkN_mem h2)
      simp at this
    · cases h2
      have := List.all_eq_true.1 hi.1 _ (lkN_mem h1)
      simp at this
    · exact injB_ok hi.2 h1 h2
section
variable {P : Program} {B : Base} {Q : AQ}
theorem wkT_get {ρ : Ren} {tm : List (Nat × V)} : ∀ {l : List (Nat × V)} (t : Nat), wkT ρ tm l → lkT l t = .any ∨ subV ρ (lkT tm t) (lkT l t)
  | [], t, _ => .inl rfl
  | (u, v) :: l, t, h => by
    simp only [wkT] at h
    simp only [lkT]
    split
    · rename_i e; subst e; exact .inr h.1
    · exact wkT_get t h.2
theorem wkB_get {ρ : Ren} {st : List (Nat × Blk)} : ∀ {l : List (Nat × Blk)} {n : Nat} {b : Blk}, wkB ρ st l → lkB l n = some b → wkB1 ρ st b (lkN ρ n)
  | [], n, b, _, h => by cases h
  | (u, x) :: l, n, b, h, hn => by
    simp only [wkB] at h
    simp only [lkB] at hn
    split at hn
    · rename_i e; cases hn; subst e; exact h.1
    · exact wkB_get h.2 hn
theorem subB_ok {ρ : Ren} {E : Env} {n m : Nat} {b b' : Blk} (hn : lkN ρ n = some (some m)) (h : subB ρ b' b) (hb : RBk P B E m b') : RBk P B (ren ρ E) n b := by
  have hη : (ren ρ E).η n = E.η m := by simp [ren, hn]
  unfold subB at h
  split at h <;> try exact h.elim
  · obtain ⟨rfl, h⟩ := h
    obtain ⟨b, us, h1, h2, h3, h4, h5⟩ := hb
    exact ⟨b, us, hη.trans h1, h2, subVs_ok ρ E _ _ _ h h3, h4, h5⟩
  · obtain ⟨rfl, rfl, rfl⟩ := h
    obtain ⟨v, us, h1, h2, h3⟩ := hb
    exact ⟨v, us, hη.trans h1, h2, h3⟩
  · obtain ⟨⟨rfl, rfl, hl⟩, h⟩ := h
    obtain ⟨v, us, h1, h2, h3, h4, h5, h6, h7⟩ := hb
    rename_i es _ es'
    have hll : es.length = es'.length := by simpa using congrArg List.length hl
    refine ⟨v, us, hη.trans h1, by rw [← hll]; exact h2, subVs_ok ρ E _ _ _ h h3, fun x hx => ?_, h5, by omega, h7⟩
    have : x.length ∈ es'.map List.length := List.mem_map_of_mem hx
    rw [← hl] at this
    obtain ⟨y, hy, e⟩ := List.mem_map.1 this
    rw [← e]; exact h4 y hy
  · obtain ⟨⟨rfl, rfl, rfl⟩, hz, hm⟩ := h
    obtain ⟨b, ms, clock, h1, h2, h3, h4, h5, h6⟩ := hb
    obtain ⟨g1, g2⟩ := subM_ok hm h3
    exact ⟨b, ms, clock, hη.trans h1, h2, g1, by rw [← g2]; exact h4, subV_ok ρ E _ _ _ hz h5, h6⟩
  · obtain ⟨rfl, rfl, rfl⟩ := h
    obtain ⟨b, rec, h1, h2⟩ := hb
    exact ⟨b, rec, hη.trans h1, h2⟩
theorem wk_of (ρ : Ren) {s s1 : St} (hi : injB ρ = true) (hn : (ρ.all fun p => decide (p.1 < s1.nx)) = true) (hT : wkT ρ s.tm s1.tm) (hB : wkB ρ s.st s1.st) : Wk P B s s1 := by
  intro E a hG
  refine ⟨ren ρ E, rfl, ⟨hG.1.os, hG.1.tape, hG.1.output, hG.1.size, hG.1.old, hG.1.F0, hG.1.Fc, hG.1.Fm, fun n x hx => ?_, ?_, fun n hnx => ?_, hG.1.dp⟩, fun t => ?_, hG.2.defers, hG.2.size⟩
  · have := wkB_get hB hx
    unfold wkB1 at this
    split at this <;> try exact this.elim
    · rename_i m hm
      split at this <;> try exact this.elim
      rename_i b' hb'
      exact subB_ok hm this (hG.1.st m b' hb')
    · rename_i hm
      split at this <;> try exact this.elim
      subst this
      exact ⟨.slice none 0 0, [], by simp [ren, hm], World.ownsRow_nil _ _ _ _, fun b hb' => by simp [hb] at hb'⟩
  · intro n m x y b v u hnm hx hy hv hu hbv hbu
    have h1 := wkB_get hB hx
    have h2 := wkB_get hB hy
    cases e1 : lkN ρ n with
    | none => rw [e1] at h1; exact h1.elim
    | some k1 =>
    cases e2 : lkN ρ m with
    | none => rw [e2] at h2; exact h2.elim
    | some k2 =>
    cases k1 with
    | none => simp [ren, e1] at hv; subst hv; simp [hb] at hbv
    | some k1 =>
    cases k2 with
    | none => simp [ren, e2] at hu; subst hu; simp [hb] at hbu
    | some k2 =>
    rw [e1] at h1
    rw [e2] at h2
    simp only [wkB1] at h1 h2
    split at h1 <;> try exact h1.elim
    split at h2 <;> try exact h2.elim
    rename_i b1 hb1 _ b2 hb2
    have hk : k1 ≠ k2 := fun e => by subst e; exact hnm (injB_ok hi e1 e2)
    have hv' : E.η k1 = some v := by simpa [ren, e1] using hv
    have hu' : E.η k2 = some u := by simpa [ren, e2] using hu
    exact hG.1.dist k1 k2 b1 b2 b v u hk hb1 hb2 hv' hu' hbv hbu
  · have hnx' : s1.nx ≤ n := hnx
    cases e : lkN ρ n with
    | none => simp [ren, e]
    | some k =>
      have := List.all_eq_true.1 hn _ (lkN_mem e)
      simp at this
      omega
  · rcases wkT_get t hT with h | h
    · rw [h]; simp only [RV]
    · exact subV_ok ρ E _ _ _ h (hG.2.tm t)
theorem aw_wk {c : Code} {s s1 : St} (h : Wk P B s s1) (h1 : AW P B c Q ⟨⟩ s1) : AW P B c Q ⟨⟩ s := aw_weak h h1
/-- a loop: states I x, of which pre holds, mu goes down -/
def Rnd (P : Program) (B : Base) {ι : Type} (I : ι → St) (pre : ι → Prop) (μ : ι → Nat) (x : ι) (s : St) : Prop := ∃ y, pre y ∧ μ y < μ x ∧ Wk P B s (I y)
theorem aw_loopI {c : Code} {s : St} {ι : Type} (I : ι → St) (pre : ι → Prop) (μ : ι → Nat) (x : ι) (h0 : pre x) (hw : Wk P B s (I x))
    (round : ∀ x, pre x → AW P B c (fun e s' => match e with | .normal => Rnd P B I pre μ x s' | e => Q e s') ⟨⟩ (I x)) : AW P B (.loop c) Q ⟨⟩ s := by
  intro E a hG
  obtain ⟨E1, e1, hG1⟩ := hw E a hG
  rw [← e1]
  refine wpIn_loop_ghost (fun n a w => ∃ E y, E.w = w ∧ μ y = n ∧ pre y ∧ Gam P B (I y) E a) (μ x) ⟨E1, x, rfl, rfl, h0, hG1⟩ ?_
  rintro n a w ⟨E, y, rfl, rfl, hp, hG⟩
  refine Code.wpIn_mono ?_ (round y hp E a hG)
  rintro e a' w' ⟨E', s', rfl, hG', hq⟩
  cases e with
  | normal =>
    obtain ⟨z, h1, h2, h3⟩ := hq
    obtain ⟨E2, e2, hG2⟩ := h3 E' a' hG'
    exact ⟨μ z, h2, E2, z, e2, rfl, h1, hG2⟩
  | _ => exact ⟨E', s', rfl, hG', hq⟩
end
end Go.Proofs.Ytfmefdeldgmhpaa

namespace Go.Proofs.Ytfmefdeldgmhpaa
set_option linter.unusedVariables false
set_option linter.unusedSimpArgs false
open Go.RowKit
/-- slots behind n others -/
def shT (n : Nat) : List (Nat × V) → List (Nat × V)
  | [] => []
  | (t, v) :: l => (t + n, v) :: shT n l
/-- the slots from n on -/
def unT (n : Nat) : List (Nat × V) → List (Nat × V)
  | [] => []
  | (t, v) :: l => if n ≤ t then (t - n, v) :: unT n l else unT n l
def inV : Nat → List V → List (Nat × V)
  | _, [] => []
  | k, v :: l => (k, v) :: inV (k + 1) l
theorem lkT_shT (n t : Nat) : ∀ l : List (Nat × V), lkT (shT n l) t = if n ≤ t then lkT l (t - n) else .any
  | [] => by simp [shT, lkT]
  | (u, v) :: l => by
    simp only [shT, lkT, lkT_shT n t l]
    by_cases h : t = u + n
    · subst h; simp
    · rw [if_neg h]
      by_cases h2 : n ≤ t
      · rw [if_pos h2, if_pos h2, if_neg (by omega)]
      · rw [if_neg h2, if_neg h2]
theorem lkT_unT (n t : Nat) : ∀ l : List (Nat × V), lkT (unT n l) t = lkT l (t + n)
  | [] => by simp [unT, lkT]
  | (u, v) :: l => by
    have ih := lkT_unT n t l
    unfold unT
    by_cases h : n ≤ u
    · rw [if_pos h]
      simp only [lkT, ih]
      by_cases h2 : t = u - n
      · rw [if_pos h2, if_pos (by omega)]
      · rw [if_neg h2, if_neg (by omega)]
    · rw [if_neg h, ih]
      simp only [lkT]
      rw [if_neg (by omega)]
theorem lkT_app (t : Nat) (l m : List (Nat × V)) (h : ∀ p ∈ l, p.1 ≠ t) : lkT (l ++ m) t = lkT m t := by
  induction l with
  | nil => rfl
  | cons p l ih =>
    obtain ⟨u, v⟩ := p
    simp only [List.cons_append, lkT]
    rw [if_neg (fun e => h (u, v) (by simp) e.symm)]
    exact ih (fun q hq => h q (by simp [hq]))
theorem inV_fst : ∀ (l : List V) (k : Nat), ∀ p ∈ inV k l, k ≤ p.1 ∧ p.1 < k + l.length
  | [], k, p, h => by cases h
  | v :: l, k, p, h => by
    simp only [inV, List.mem_cons] at h
    rcases h with rfl | h
    · simp
    · have := inV_fst l (k + 1) p h
      simp only [List.length_cons]
      omega
theorem lkT_inV (m : List (Nat × V)) : ∀ (l : List V) (k t : Nat), k ≤ t → t < k + l.length → lkT (inV k l ++ m) t = l.getD (t - k) .any
  | [], k, t, h1, h2 => by simp at h2; omega
  | v :: l, k, t, h1, h2 => by
    simp only [inV, List.cons_append, lkT]
    by_cases h : t = k
    · subst h; simp
    · rw [if_neg h, lkT_inV m l (k + 1) t (by omega) (by simp only [List.length_cons] at h2; omega)]
      rw [show t - k = (t - (k + 1)) + 1 by omega]
      simp
section
variable {P : Program} {B B' : Base} {T : Tab}
theorem RBk.base (h1 : B'.w0 = B.w0) (h2 : B'.S0 = B.S0) {E : Env} {n : Nat} {x : Blk} (h : RBk P B E n x) : RBk P B' E n x := by
  obtain ⟨w0, S0, F0, N, g, r⟩ := B
  obtain ⟨w0', S0', F0', N', g', r'⟩ := B'
  simp only at h1 h2
  subst h1 h2
  cases x <;> exact h
theorem GamS.base (h1 : B'.w0 = B.w0) (h2 : B'.S0 = B.S0) (h3 : B'.F0 = B.F0) {σ : Nat → Option Blk} {fr : Nat → Prop} {E : Env} (h : GamS P B σ fr E) : GamS P B' σ fr E :=
  ⟨by rw [h1]; exact h.os, by rw [h1]; exact h.tape, by rw [h1]; exact h.output, by rw [h1]; exact h.size, by rw [h1, h2]; exact h.old, by rw [h3]; exact h.F0, by rw [h1, h2, h3]; exact h.Fc, by rw [h1, h2, h3]; exact h.Fm, fun n x hx => (h.st n x hx).base h1 h2, h.dist, h.fresh, by rw [h1, h2]; exact h.dp⟩
/-- the base of a call that is walked in place -/
def Base.inn (B : Base) (N : Nat) (g : Nat → Value) (gd : Nat → Prop) : Base := ⟨B.w0, B.S0, B.F0, N, g, none, gd⟩
theorem vOf_inn {N : Nat} {g : Nat → Value} {gd : Nat → Prop} {a : Act} (t : Nat) : vOf (B.inn N g gd) a (t + N) = g t := by
  unfold vOf
  rw [if_neg (by show ¬ t + N < N; omega)]
  show g (t + N - N) = _
  rw [Nat.add_sub_cancel]
/-- all marks that are out -/
def gdOf (B : Base) (a : Act) (D : Nat) : Prop := B.gd D ∨ mark D ∈ a.defers
theorem gam_enter {N : Nat} {s : St} {E : Env} {a : Act} {vs : List V} {us : List Value} (h : Gam P B s E a) (hv : RVL E vs us) (hN : vs.length ≤ N) :
    Gam P (B.inn N (vOf B a) (gdOf B a)) ⟨inV 0 vs ++ shT N s.tm, s.st, s.nx⟩ E ⟨us.toArray ++ Array.replicate (N - us.toArray.size) undef, []⟩ := by
  have hl := hv.len
  obtain ⟨es, e1, e2, e3, e4⟩ := h.2.defers
  refine ⟨GamS.base (B := B) (B' := B.inn N (vOf B a) (gdOf B a)) rfl rfl rfl h.1, fun t => ?_, ⟨[], rfl, List.nodup_nil, fun D hD => (by cases hD), fun D hD => ?_⟩, by simp [Base.inn]; omega⟩
  rotate_left
  · rcases hD with hD | hD
    · exact e4 D hD
    · rw [e1] at hD
      obtain ⟨X, hX, hm⟩ := List.mem_map.1 hD
      have : X = D := by simpa [mark] using hm
      subst this
      exact (e3 X hX).1
  show RV E (lkT (inV 0 vs ++ shT N s.tm) t) _
  unfold vOf
  by_cases h1 : t < vs.length
  · rw [lkT_inV _ vs 0 t (Nat.zero_le _) (by omega), if_pos (by show t < N; omega), Nat.sub_zero]
    obtain ⟨u, g1, g2⟩ := hv.get (j := t) (x := vs.getD t .any) (by simp [List.getD_eq_getElem?_getD, h1])
    have : (us.toArray ++ Array.replicate (N - us.toArray.size) undef).getD t undef = u := by
      simp only [Array.getD_eq_getD_getElem?, Array.getElem?_append, List.size_toArray]
      rw [if_pos (by omega)]
      simp [g1]
    rw [this]
    exact g2
  · rw [lkT_app _ _ _ (fun p hp e => by have := (inV_fst vs 0 p hp).2; omega), lkT_shT]
    by_cases h2 : N ≤ t
    · rw [if_pos h2, if_neg (by show ¬ t < N; omega)]
      exact h.2.tm (t - N)
    · rw [if_neg h2]; simp only [RV]
/-- back from such a call -/
theorem gam_leave {N : Nat} {s s' : St} {E E' : Env} {a a' : Act} {ds : List Nat} (h : Gam P B s E a) (h' : GamS P (B.inn N (vOf B a) (gdOf B a)) (lkB s'.st) (fun n => s'.nx ≤ n) E') (ht : ∀ t, RV E' (lkT s'.tm t) (vOf (B.inn N (vOf B a) (gdOf B a)) a' t)) (hd : ∀ X, gdOf B a X → E'.dp X) :
    Gam P B ⟨unT N s'.tm, s'.st, s'.nx⟩ E' a := by
  obtain ⟨es, e1, e2, e3, e4⟩ := h.2.defers
  refine ⟨GamS.base (B' := B) (B := B.inn N (vOf B a) (gdOf B a)) rfl rfl rfl h', fun t => ?_, ⟨es, e1, e2, fun D hD => ⟨hd D (.inr (by rw [e1]; exact List.mem_map_of_mem hD)), (e3 D hD).2⟩, fun D hD => hd D (.inl hD)⟩, h.2.size⟩
  show RV E' (lkT (unT N s'.tm) t) _
  rw [lkT_unT]
  have := ht (t + N)
  rwa [vOf_inn] at this
def resOf : List V → V
  | [v] => v
  | vs => .tup vs
theorem resOf_ok {E : Env} : ∀ {vs : List V} {us : List Value}, RVL E vs us → RV E (resOf vs) (if h : us.toArray.size = 1 then us.toArray[0] else .tuple us.toArray)
  | [], us, h => by
    simp only [RVL] at h
    subst h
    simp only [resOf, RV]
    exact ⟨[], rfl, by simp [RVL]⟩
  | [v], us, h => by
    simp only [RVL] at h
    obtain ⟨u, r, rfl, h1, rfl⟩ := h
    exact h1
  | v :: v' :: vs, us, h => by
    have hl := h.len
    have : ¬ us.toArray.size = 1 := by simp at hl ⊢; omega
    rw [dif_neg this]
    simp only [resOf, RV]
    exact ⟨us, rfl, h⟩
/-- what a call that is walked in place must come to -/
def inQ (T : Tab) (N : Nat) (rs : List ResultVar) (d : Option Tmp) (K : St → Prop) : AQ := fun e s => match e with
  | .normal | .ret => retL T s.st s.tm rs (fun vs => K ⟨put d (resOf vs) (unT N s.tm), s.st, s.nx⟩)
  | _ => False
theorem callI_in {f : FuncId} {fn : Func} {c : Code} {vs : List V} {rs : List ResultVar} {d : Option Tmp} {s : St} {K : St → Prop} {N : Nat} (hT : TabOk P T) (hf : P.funcs[f]? = some fn) (hN : fn.ntmps = N) (hb : fn.body = some c) (hr : fn.results = rs.toArray)
    (hname : (P.funcs[f]?).any (fun fn => fn.name != "runtime.NumGoroutine" && fn.body.isSome) = true) (hn : vs.length ≤ N) (hd : (match d with | some t => decide (t < B.N) | none => true) = true)
    (hrs : (rs.all (rvOk N)) = true) (h : ∀ a, AW P (B.inn N (vOf B a) (gdOf B a)) c (inQ T N rs d K) ⟨⟩ ⟨inV 0 vs ++ shT N s.tm, s.st, s.nx⟩) : callI P B f vs d s K ⟨⟩ := by
  subst hN
  have hd : ∀ t, d = some t → t < B.N := fun t e => by rw [e] at hd; simpa using hd
  refine ⟨hname, fun E a us hG hv => callsIn_wide.1 (callsIn_of_wp_marks (F := Fence.wide) (n := 0) hf hb trivial (Code.wpIn_mono ?_ (h a E _ (gam_enter hG hv hn))) rfl)⟩
  rintro e a' w' ⟨E0, s', rfl, hG0, hq⟩
  have key : retL T s'.st s'.tm rs (fun vs => K ⟨put d (resOf vs) (unT fn.ntmps s'.tm), s'.st, s'.nx⟩) → LeavesInM Fence.wide 0 P fn a'.tmps (fun e w' => ∃ u E' s', e = .returned u ∧ E'.w = w' ∧ Gam P B s' E' (a.put d u) ∧ K s') a'.defers .returning E0.w := fun hrr => by
    obtain ⟨ds, hds, hnd, hdp, hgd⟩ := hG0.2.defers
    obtain ⟨E', hS, hX, hk, hL⟩ := leaves_of (fn := fn) (R := fun e w' => ∃ u E' s', e = .returned u ∧ E'.w = w' ∧ Gam P B s' E' (a.put d u) ∧ K s') ds E0 hG0.1 hnd (fun D hD => (hdp D hD).1) a'.tmps
    have hkeep : ∀ D, gdOf B a D → E'.dp D := fun D hD => hk D (hgd D hD) (fun hm => (hdp D hm).2 hD)
    have hG' : Gam P (B.inn fn.ntmps (vOf B a) (gdOf B a)) s' E' ⟨a'.tmps, []⟩ := ⟨hS, fun t => RV.mono hX _ _ (hG0.2.tm t), ⟨[], rfl, List.nodup_nil, fun D hD => (by cases hD), hkeep⟩, hG0.2.size⟩
    obtain ⟨vs', hK, hlen, h5⟩ := retL_ok (B := B.inn fn.ntmps (vOf B a) (gdOf B a)) hT hrs hrr
    obtain ⟨us', h6, h7⟩ := h5 E' ⟨a'.tmps, []⟩ hG'
    rw [hds]
    have hgl := gam_leave (N := fn.ntmps) (ds := ds) hG hS hG'.2.tm hkeep
    exact hL _ (results_run (a := ⟨a'.tmps, []⟩) (by rw [hr]; exact h6)) ⟨_, E', ⟨put d (resOf vs') (unT fn.ntmps s'.tm), s'.st, s'.nx⟩, rfl, rfl, ⟨hgl.1, hgl.2.put (resOf_ok h7) hd⟩, hK⟩
  cases e <;> simp only [inQ] at hq <;> first | exact hq.elim | exact key hq
/-- a call over data, by its contract -/
theorem callI_spec {f : FuncId} {vs : List V} {asA : List A} {r : Ret} {d : Option Tmp} {s : St} {K : St → Prop} (hS : Spec P f asA r) (has : toAs vs = some asA)
    (hname : (P.funcs[f]?).any (fun fn => fn.name != "runtime.NumGoroutine" && fn.body.isSome) = true) (hd : (match d with | some t => decide (t < B.N) | none => true) = true) (hK : K ⟨put d (ofRet r) s.tm, s.st, s.nx⟩) : callI P B f vs d s K ⟨⟩ := by
  have hd : ∀ t, d = some t → t < B.N := fun t e => by rw [e] at hd; simpa using hd
  refine ⟨hname, fun E a us hG hv => (hS E.F E.w us hG.1.lt (toAs_ok has hv)).mono ?_⟩
  rintro e w' ⟨v, F', rfl, hb, hF, hr⟩
  let E' : Env := ⟨E.η, F', w', E.dp⟩
  have hs : HStep E E' s.nx := ⟨hb, fun _ _ => rfl, hF, rfl⟩
  have hext := hs.ext hG.1.lt (hG.1.fresh _ (Nat.le_refl _))
  have hσn : lkB s.st s.nx = none := hG.1.none_of_fresh (Nat.le_refl _)
  exact ⟨v, E', ⟨put d (ofRet r) s.tm, s.st, s.nx⟩, rfl, rfl, ⟨hG.1.head (σ' := lkB s.st) (x := none) hs rfl (Nat.le_refl _) (fun n => by split <;> simp_all) hσn (fun n hn' => ⟨hn', fun h => by cases h⟩), (hG.2.ext hext rfl).put (ofRet_ok (E := E') hr) hd⟩, hK⟩
end
end Go.Proofs.Ytfmefdeldgmhpaa

namespace Go.Proofs.Ytfmefdeldgmhpaa
set_option linter.unusedVariables false
set_option linter.unusedSimpArgs false
open Go.RowKit
section
variable {P : Program} {B : Base} {T : Tab}
theorem GamS.sub {σ σ' : Nat → Option Blk} {fr : Nat → Prop} {E : Env} (h : GamS P B σ fr E) (hσ : ∀ n x, σ' n = some x → σ n = some x) : GamS P B σ' fr E :=
  ⟨h.os, h.tape, h.output, h.size, h.old, h.F0, h.Fc, h.Fm, fun n x hx => h.st n x (hσ n x hx), fun n m x y b v u hnm hx hy => h.dist n m x y b v u hnm (hσ n x hx) (hσ m y hy), h.fresh, h.dp⟩
theorem GamS.addDp {σ : Nat → Option Blk} {fr : Nat → Prop} {E : Env} {D : Nat} (h : GamS P B σ fr E) (h1 : E.w.heap[D]? = some (.deferred (some []))) (h2 : B.w0.heap.size ≤ D) (h3 : ¬ E.F.m D) (h4 : ∀ o, ¬ E.F.c D o) :
    GamS P B σ fr ⟨E.η, E.F, E.w, fun X => E.dp X ∨ X = D⟩ := by
  have hext : Ext E ⟨E.η, E.F, E.w, fun X => E.dp X ∨ X = D⟩ := ⟨fun _ _ h => h, Ft.le_refl _, Kp.refl _ _⟩
  refine ⟨h.os, h.tape, h.output, h.size, h.old, h.F0, h.Fc, h.Fm, fun n x hx => (h.st n x hx).keep (fun _ h => h) hext (Nat.le_refl _) (fun _ _ _ _ _ => rfl) (fun _ _ _ _ _ hok => hok), h.dist, h.fresh, fun X hX => ?_⟩
  rcases hX with hX | rfl
  · exact h.dp X hX
  · exact ⟨h1, .inl h2, h3, h4⟩
theorem delB_get {n m : Nat} {x : Blk} {st : List (Nat × Blk)} (h : lkB (delB m st) n = some x) : lkB st n = some x := by
  rw [lkB_delB] at h
  split at h
  · cases h
  · exact h
/-- a loop's record goes on -/
theorem GamS.setLoop {st : List (Nat × Blk)} {fr : Nat → Prop} {E : Env} {n : Nat} {L : LoopC} {s0 : LoopState} {p0 : Option Code} (h : GamS P B (lkB st) fr E) (hn : lkB st n = some (.loop L s0 p0)) :
    ∃ l rec, E.η n = some (.func (.yield l) #[] #[]) ∧ E.w.heap[l]? = some (.loop rec) ∧ (rec.state = s0 ∧ rec.pending = p0 ∧ rec.tmps = L.tms ∧ rec.params = L.ps ∧ rec.assign = L.assign ∧ rec.body = L.body ∧ l = L.l) ∧
      ∀ s1 p1, GamS P B (lkB (setB n (.loop L s1 p1) st)) fr ⟨E.η, E.F, E.w.putObj l (.loop { rec with state := s1, pending := p1 }), E.dp⟩ ∧ Ext E ⟨E.η, E.F, E.w.putObj l (.loop { rec with state := s1, pending := p1 }), E.dp⟩ := by
  obtain ⟨l, rec, h1, h2, h3, h4⟩ := h.st n _ hn
  refine ⟨l, rec, h1, h2, h3, fun s1 p1 => ?_⟩
  exact GamS.write (x := .loop L s0 p0) (x' := .loop L s1 p1) (σ' := lkB (setB n (.loop L s1 p1) st)) (w' := E.w.putObj l (.loop { rec with state := s1, pending := p1 })) h hn (fun m => lkB_setB _ _ _ _) h1 rfl (fun o' ho' => (h4.2.2.2 o' ho').elim) rfl rfl rfl World.putObj_size (fun i hi => World.putObj_heap_other hi)
    (fun E' hE' hext hok => by
      subst hE'
      exact ⟨l, _, h1, World.putObj_heap_same h4.2.1, ⟨rfl, rfl, h3.2.2⟩, hok⟩)
theorem gam_loop {s : St} {E : Env} {a : Act} (h : Gam P B s E a) (fn : FuncId) (ps : Array Tmp) (assign body : Code) :
    ∃ E1, E1.w = (E.w.alloc (.deferred (some []))).alloc (.loop { state := .ready, pending := none, fn, tmps := a.tmps, params := ps, assign, body, defers := E.w.heap.size }) ∧ E1.η s.nx = some (.func (.yield (E.w.heap.size + 1)) #[] #[]) ∧
      Gam P B ⟨s.tm, (s.nx, .loop ⟨a.tmps, ps, assign, body, E.w.heap.size + 1⟩ .ready none) :: s.st, s.nx + 1⟩ E1 { a with defers := mark E.w.heap.size :: a.defers } ∧ Ext E E1 := by
  obtain ⟨rec, hrec⟩ : ∃ rec : Loop, rec = { state := .ready, pending := none, fn, tmps := a.tmps, params := ps, assign, body, defers := E.w.heap.size } := ⟨_, rfl⟩
  rw [← hrec]
  obtain ⟨w1, hw1⟩ : ∃ w1, w1 = (E.w.alloc (.deferred (some []))).alloc (.loop rec) := ⟨_, rfl⟩
  rw [← hw1]
  have hsz : w1.heap.size = E.w.heap.size + 2 := by rw [hw1]; simp
  have hL : w1.heap[E.w.heap.size + 1]? = some (.loop rec) := by
    rw [hw1]; have := World.alloc_heap_new (E.w.alloc (.deferred (some []))) (.loop rec); rwa [World.size_alloc] at this
  have hD : w1.heap[E.w.heap.size]? = some (.deferred (some [])) := by
    rw [hw1]; exact (Below.heap_alloc _ _ _ (by simp)).trans (World.alloc_heap_new E.w _)
  have hb : Below E.w.heap.size E.w w1 := by
    rw [hw1]; exact ((Below.refl _ E.w).alloc (Nat.le_refl _) _).alloc (by simp) _
  have hs : HStep E (E.name s.nx (.func (.yield (E.w.heap.size + 1)) #[] #[]) E.F w1) s.nx := hstep_name hb FtNew.same
  have hext := hs.ext h.1.lt (h.1.fresh _ (Nat.le_refl _))
  have hσn : lkB s.st s.nx = none := h.1.none_of_fresh (Nat.le_refl _)
  have hF1 : ∀ b, E.w.heap.size ≤ b → ¬ E.F.m b := fun b hb hm => by have := (h.1.Fm b hm).2; omega
  have hF2 : ∀ b, E.w.heap.size ≤ b → ∀ o, ¬ E.F.c b o := fun b hb o hm => by have := (h.1.Fc b o hm).2; omega
  have hS0 := h.1.size
  have hx : NewB P B E (E.name s.nx (.func (.yield (E.w.heap.size + 1)) #[] #[]) E.F w1) s.nx (some (.loop ⟨a.tmps, ps, assign, body, E.w.heap.size + 1⟩ .ready none)) := by
    refine ⟨.func (.yield (E.w.heap.size + 1)) #[] #[], by simp [Env.name], fun b hb => by simp [Go.Proofs.Ytfmefdeldgmhpaa.hb] at hb; omega, E.w.heap.size + 1, rec, by simp [Env.name], hL, by rw [hrec]; exact ⟨rfl, rfl, rfl, rfl, rfl, rfl, rfl⟩, .inl (by omega), by show _ < w1.heap.size; omega, hF1 _ (by omega), fun o ho => hF2 _ (by omega) o ho⟩
  have G0 := h.1.head (σ' := lkB ((s.nx, .loop ⟨a.tmps, ps, assign, body, E.w.heap.size + 1⟩ .ready none) :: s.st)) (fr' := fun n => s.nx + 1 ≤ n) hs hx (Nat.le_refl _) (fun n => rfl) hσn (fun n hn' => ⟨by omega, fun _ => by omega⟩)
  have G1 := G0.addDp (D := E.w.heap.size) hD hS0 (hF1 _ (Nat.le_refl _)) (hF2 _ (Nat.le_refl _))
  have hext1 : Ext E ⟨(E.name s.nx (.func (.yield (E.w.heap.size + 1)) #[] #[]) E.F w1).η, E.F, w1, fun X => E.dp X ∨ X = E.w.heap.size⟩ := ⟨hext.η, hext.F, hext.k⟩
  obtain ⟨es, e1, e2, e3, e4⟩ := h.2.defers
  have hlt : ∀ X, E.dp X → X < E.w.heap.size := fun X hX => (Array.getElem?_eq_some_iff.1 (h.1.dp X hX).1).1
  refine ⟨_, rfl, by simp [Env.name], ⟨G1, fun t => RV.mono hext1 _ _ (h.2.tm t), ⟨E.w.heap.size :: es, by rw [e1]; rfl, List.nodup_cons.2 ⟨fun hm => by have := hlt _ (e3 _ hm).1; omega, e2⟩, fun X hX => ?_, fun X hX => .inl (e4 X hX)⟩, h.2.size⟩, hext1⟩
  rcases List.mem_cons.1 hX with rfl | hX
  · exact ⟨.inr rfl, fun hg => by have := hlt _ (e4 _ hg); omega⟩
  · exact ⟨.inl (e3 X hX).1, (e3 X hX).2⟩
end
end Go.Proofs.Ytfmefdeldgmhpaa

namespace Go.Proofs.Ytfmefdeldgmhpaa
set_option linter.unusedVariables false
set_option linter.unusedSimpArgs false
open Go.RowKit
def rfEnd (Q : AQ) (s : St) : Option Code → Prop
  | none => Q .normal s
  | some .ret => Q .ret s
  | some (.exit i) => Q (.exit i) s
  | _ => False
/-- the iterator's end: the record lies under the name in slot 0 -/
def rfQ (N : Nat) (L : LoopC) (Q : AQ) : AQ := fun e s => match e with
  | .normal | .ret => match lkT s.tm 0 with
    | .yl m => match lkB s.st m with
      | some (.loop L' st pe) => L' = L ∧ st ≠ .busy ∧ rfEnd Q ⟨unT N s.tm, delB m s.st, s.nx⟩ pe
      | _ => False
    | _ => False
  | _ => False
section
variable {P : Program} {B : Base} {T : Tab}
theorem aw_rangeFunc {g : Operand} {ps : Array Tmp} {assign body : Code} {Q : AQ} {s : St} {gf : FuncId} {caps : List V} {fn : Func} {c : Code} (hr0 : B.r = none) (hg : ev (lkT s.tm) g = .fn gf caps) (hco : constOk B.N g = true)
    (hf : P.funcs[gf]? = some fn) (hb : fn.body = some c) (hrs : fn.results = #[]) (hname : (P.funcs[gf]?).any (fun fn => fn.name != "runtime.NumGoroutine" && fn.body.isSome) = true) (hn : 1 + caps.length ≤ fn.ntmps)
    (h : ∀ (a : Act) (L : LoopC), L.ps = ps → L.assign = assign → L.body = body → (L.tms.size = B.N ∧ ∀ t, t < B.N → L.tms.getD t undef = vOf B a t) →
      AW P (B.inn fn.ntmps (vOf B a) (gdOf B a)) c (rfQ fn.ntmps L Q) ⟨⟩ ⟨inV 0 (.yl s.nx :: caps) ++ shT fn.ntmps s.tm, (s.nx, .loop L .ready none) :: s.st, s.nx + 1⟩) : AW P B (.rangeFunc g ps assign body) Q ⟨⟩ s := by
  intro E a hG
  have hfv := ev_ok hG.2 g hco
  rw [hg] at hfv
  simp only [RV] at hfv
  obtain ⟨us, hv, hus⟩ := hfv
  rw [hr0]
  refine wpIn_rangeFunc fun fn0 _ => ?_
  obtain ⟨E1, w1, η1, hG1, hX1⟩ := gam_loop hG fn0 ps assign body
  have hus1 := RVL.mono hX1 _ _ hus
  refine ⟨E.w.heap.size + 1, [mark E.w.heap.size], E1.w, { target := .fn (.func gf) us.toArray, args := #[.func (.yield (E.w.heap.size + 1)) #[] #[]] }, E1.w, gf, #[.func (.yield (E.w.heap.size + 1)) #[] #[]] ++ us.toArray, E1.w, ?_, ?_, fun _ _ => trivial, ?_, fun h => (by cases h), ?_⟩
  · rw [w1]; exact run_enterLoop_outer _ _ _ _ _
  · simp only [resolve, hv]
    simp [Deferred.ofValue, Operand.const, Act.eval]
  · simp [invoke, run_callFunc hname]
  · have hl := hus.len
    have hin := gam_enter (N := fn.ntmps) (vs := .yl s.nx :: caps) (us := .func (.yield (E.w.heap.size + 1)) #[] #[] :: us) hG1 (by simp only [RVL, RV]; exact ⟨_, _, rfl, ⟨η1, _, rfl⟩, hus1⟩) (by simp only [List.length_cons]; omega)
    have eargs : (#[.func (.yield (E.w.heap.size + 1)) #[] #[]] ++ us.toArray : Array Value) = (Value.func (.yield (E.w.heap.size + 1)) #[] #[] :: us).toArray := by simp
    rw [eargs]
    have hvt : ∀ t, t < B.N → a.tmps.getD t undef = vOf B { a with defers := mark E.w.heap.size :: a.defers } t := fun t ht => by unfold vOf; rw [if_pos ht]
    refine callsIn_of_wp_marks (F := fen none) hf hb trivial (Code.wpIn_mono ?_ (h { a with defers := mark E.w.heap.size :: a.defers } ⟨a.tmps, ps, assign, body, E.w.heap.size + 1⟩ rfl rfl rfl ⟨hG.2.size, hvt⟩ E1 _ hin)) rfl
    rintro e a2 w' ⟨E0, s', rfl, hG0, hq⟩
    have key : (match lkT s'.tm 0 with
      | .yl m => match lkB s'.st m with
        | some (.loop L' st pe) => L' = ⟨a.tmps, ps, assign, body, E.w.heap.size + 1⟩ ∧ st ≠ .busy ∧ rfEnd Q ⟨unT fn.ntmps s'.tm, delB m s'.st, s'.nx⟩ pe
        | _ => False
      | _ => False) → LeavesInM Fence.wide 0 P fn a2.tmps (rangePost (fen none) 0 P (E.w.heap.size + 1) (AQQ P B Q) { a with defers := [mark E.w.heap.size] ++ a.defers }) a2.defers .returning E0.w := fun hq => by
      split at hq <;> try exact hq.elim
      rename_i m hm
      split at hq <;> try exact hq.elim
      rename_i L' st pe hst
      obtain ⟨rfl, hnb, hend⟩ := hq
      obtain ⟨ds, hds, hnd, hdp, hgd⟩ := hG0.2.defers
      obtain ⟨E', hS, hX, hk, hL⟩ := leaves_of (fn := fn) (R := rangePost (fen none) 0 P (E.w.heap.size + 1) (AQQ P B Q) { a with defers := [mark E.w.heap.size] ++ a.defers }) ds E0 hG0.1 hnd (fun D hD => (hdp D hD).1) a2.tmps
      have hkeep : ∀ D, gdOf B { a with defers := mark E.w.heap.size :: a.defers } D → E'.dp D := fun D hD => hk D (hgd D hD) (fun hm => (hdp D hm).2 hD)
      obtain ⟨l, rec, l1, l2, l3, l4⟩ := hS.setLoop hst
      have hll : l = E.w.heap.size + 1 := l3.2.2.2.2.2.2
      subst hll
      obtain ⟨S1, X1⟩ := l4 .exhausted pe
      have S2 := S1.sub (σ' := lkB (delB m s'.st)) (fun n x hx => by
        rw [lkB_delB] at hx
        rw [lkB_setB]
        by_cases hnm : n = m
        · rw [if_pos hnm] at hx; cases hx
        · rw [if_neg hnm] at hx ⊢; exact hx)
      have hgl := gam_leave (N := fn.ntmps) (ds := ds) (s' := ⟨s'.tm, delB m s'.st, s'.nx⟩) hG1 S2 (fun t => RV.mono (hX.trans X1) _ _ (hG0.2.tm t)) hkeep
      have hend2 := run_endLoop (P := P) l2 (by rw [l3.1]; exact hnb)
      rw [l3.2.1] at hend2
      rw [hds]
      refine hL (.tuple #[]) (by simp [results, hrs]) ⟨pe, _, hend2, ?_⟩
      cases pe with
      | none => exact ⟨_, _, rfl, hgl, hend⟩
      | some jc =>
        cases jc <;> simp only [rfEnd] at hend
        case ret => exact wpIn_ret ⟨_, _, rfl, hgl, hend⟩
        case exit i => exact wpIn_exit ⟨_, _, rfl, hgl, hend⟩
    cases e <;> simp only [rfQ] at hq <;> first | exact hq.elim | exact key hq
/-- a token -/
structure TokR (ps : Array Tmp) (assign body : Code) (Q : AQ) : Type where
/-- a range over a function that is known -/
def rfI (P : Program) (B : Base) (gf : FuncId) (caps : List V) (ps : Array Tmp) (assign body : Code) (Q : AQ) (s : St) (_ : TokR ps assign body Q) : Prop :=
  B.r = none ∧ ∀ g : Operand, ev (lkT s.tm) g = .fn gf caps → constOk B.N g = true → AW P B (.rangeFunc g ps assign body) Q ⟨⟩ s
theorem aw_rfM {g : Operand} {ps : Array Tmp} {assign body : Code} {Q : AQ} {s : St} (hco : constOk B.N g = true) (h : match ev (lkT s.tm) g with | .fn gf caps => rfI P B gf caps ps assign body Q s ⟨⟩ | _ => False) : AW P B (.rangeFunc g ps assign body) Q ⟨⟩ s := by
  split at h <;> try exact h.elim
  rename_i gf caps hg
  exact h.2 g hg hco
theorem rfI_in {gf : FuncId} {caps : List V} {ps : Array Tmp} {assign body : Code} {Q : AQ} {s : St} {fn : Func} {c : Code} {N N0 : Nat} (hf : P.funcs[gf]? = some fn) (hN : fn.ntmps = N) (hN0 : B.N = N0) (hr0 : B.r = none) (hb : fn.body = some c) (hrs : fn.results.isEmpty = true) (hn : 1 + caps.length ≤ N) (hname : (P.funcs[gf]?).any (fun fn => fn.name != "runtime.NumGoroutine" && fn.body.isSome) = true)
    (h : ∀ (a : Act) (L : LoopC), L.ps = ps → L.assign = assign → L.body = body → (L.tms.size = N0 ∧ ∀ t, t < N0 → L.tms.getD t undef = vOf B a t) →
      AW P (B.inn N (vOf B a) (gdOf B a)) c (rfQ N L Q) ⟨⟩ ⟨inV 0 (.yl s.nx :: caps) ++ shT N s.tm, (s.nx, .loop L .ready none) :: s.st, s.nx + 1⟩) : rfI P B gf caps ps assign body Q s ⟨⟩ := by
  subst hN hN0
  exact ⟨hr0, fun g hg hco => aw_rangeFunc hr0 hg hco hf hb (by simpa using hrs) hname hn h⟩
end
end Go.Proofs.Ytfmefdeldgmhpaa

namespace Go.Proofs.Ytfmefdeldgmhpaa
set_option linter.unusedVariables false
set_option linter.unusedSimpArgs false
open Go.RowKit
/-- the n slots from lo on -/
def pickT (lo n : Nat) : List (Nat × V) → List (Nat × V)
  | [] => []
  | (t, v) :: l => if lo ≤ t ∧ t < lo + n then (t - lo, v) :: pickT lo n l else pickT lo n l
theorem lkT_pickT (lo n t : Nat) (ht : t < n) : ∀ l : List (Nat × V), lkT (pickT lo n l) t = lkT l (t + lo)
  | [] => by simp [pickT, lkT]
  | (u, v) :: l => by
    have ih := lkT_pickT lo n t ht l
    unfold pickT
    by_cases h : lo ≤ u ∧ u < lo + n
    · rw [if_pos h]
      simp only [lkT, ih]
      by_cases h2 : t = u - lo
      · rw [if_pos h2, if_pos (by omega)]
      · rw [if_neg h2, if_neg (by omega)]
    · rw [if_neg h, ih]
      simp only [lkT]
      rw [if_neg (by omega)]
theorem pickT_lt (lo n : Nat) : ∀ l : List (Nat × V), ∀ p ∈ pickT lo n l, p.1 < n
  | [], p, h => by cases h
  | (u, v) :: l, p, h => by
    unfold pickT at h
    split at h
    · rename_i h1
      rcases List.mem_cons.1 h with rfl | h
      · show u - lo < n; omega
      · exact pickT_lt lo n l p h
    · exact pickT_lt lo n l p h
/-- params are set -/
def setP : List Nat → List V → List (Nat × V) → List (Nat × V)
  | t :: ts, v :: vs, l => setP ts vs (setT t v l)
  | _, _, l => l
/-- the base of a round -/
def Base.inr (B : Base) (N : Nat) (g : Nat → Value) (gd : Nat → Prop) (l : Nat) : Base := ⟨B.w0, B.S0, B.F0, N, g, some l, gd⟩
theorem setP_lt {N : Nat} : ∀ (ps : List Nat) (vs : List V) (l : List (Nat × V)), (ps.all (fun p => decide (p < N))) = true → (∀ p ∈ l, p.1 < N) → ∀ p ∈ setP ps vs l, p.1 < N
  | [], vs, l, _, h => by unfold setP; exact h
  | t :: ts, [], l, _, h => by unfold setP; exact h
  | t :: ts, v :: vs, l, hp, h => by
    simp only [List.all_cons, Bool.and_eq_true, decide_eq_true_eq] at hp
    unfold setP
    refine setP_lt ts vs _ hp.2 fun p hp' => ?_
    have : ∀ (l : List (Nat × V)), (∀ p ∈ l, p.1 < N) → ∀ p ∈ setT t v l, p.1 < N := by
      intro l
      induction l with
      | nil => intro _ p hp'; simp only [setT, List.mem_singleton] at hp'; subst hp'; exact hp.1
      | cons q l ih =>
        obtain ⟨u, x⟩ := q
        intro h p hp'
        unfold setT at hp'
        split at hp'
        · rcases List.mem_cons.1 hp' with rfl | hp'
          · exact h (u, x) (by simp)
          · exact h p (by simp [hp'])
        · rcases List.mem_cons.1 hp' with rfl | hp'
          · exact h _ (by simp)
          · exact ih (fun q hq => h q (by simp [hq])) p hp'
    exact this l h p hp'
theorem setP_ok {E : Env} {N : Nat} : ∀ (ps : List Nat) (vs : List V) (us : List Value) (l : List (Nat × V)) (arr : Array Value), RVL E vs us → arr.size = N → (∀ t, t < N → RV E (lkT l t) (arr.getD t undef)) →
    ((ps.zip us).foldl (fun (tmps : Array Value) (p : Nat × Value) => tmps.setIfInBounds p.1 p.2) arr).size = N ∧ ∀ t, t < N → RV E (lkT (setP ps vs l) t) (((ps.zip us).foldl (fun (tmps : Array Value) (p : Nat × Value) => tmps.setIfInBounds p.1 p.2) arr).getD t undef)
  | [], vs, us, l, arr, _, hs, h => by unfold setP; simp only [List.zip_nil_left, List.foldl_nil]; exact ⟨hs, h⟩
  | t :: ts, [], us, l, arr, hv, hs, h => by
    simp only [RVL] at hv
    subst hv
    unfold setP
    simp only [List.zip_nil_right, List.foldl_nil]
    exact ⟨hs, h⟩
  | t :: ts, v :: vs, us, l, arr, hv, hs, h => by
    simp only [RVL] at hv
    obtain ⟨u, r, rfl, h1, h2⟩ := hv
    unfold setP
    simp only [List.zip_cons_cons, List.foldl_cons]
    refine setP_ok ts vs r _ _ h2 (by simp [hs]) fun k hk => ?_
    rw [lkT_setT]
    by_cases hkt : k = t
    · subst hkt
      rw [if_pos rfl]
      simpa [Array.getD_eq_getD_getElem?, hs, hk] using h1
    · rw [if_neg hkt]
      have := h k hk
      rwa [show (arr.setIfInBounds t u).getD k undef = arr.getD k undef by simp [Array.getD_eq_getD_getElem?, Array.getElem?_setIfInBounds, Ne.symm hkt]]
section
variable {P : Program} {B : Base} {T : Tab}
theorem gam_round {N off l : Nat} {tms : Array Value} {ps : Array Tmp} {s : St} {E : Env} {a : Act} {vs : List V} {us : List Value} (h : Gam P B s E a) (hv : RVL E vs us) (hps : (ps.toList.all (fun p => decide (p < N))) = true) (hsz : tms.size = N) (hg : ∀ t, t < N → tms.getD t undef = B.g (off + t)) :
    Gam P (B.inr N (vOf B a) (gdOf B a) l) ⟨setP ps.toList vs (pickT (B.N + off) N s.tm) ++ shT N s.tm, s.st, s.nx⟩ E { tmps := (ps.zip us.toArray).foldl (fun tmps (t, a) => tmps.setIfInBounds t a) tms, defers := [] } := by
  obtain ⟨es, e1, e2, e3, e4⟩ := h.2.defers
  have hz : (ps.zip us.toArray).foldl (fun (tmps : Array Value) (x : Tmp × Value) => tmps.setIfInBounds x.1 x.2) tms = (ps.toList.zip us).foldl (fun (tmps : Array Value) (p : Nat × Value) => tmps.setIfInBounds p.1 p.2) tms := by
    rw [← Array.foldl_toList]; simp
  have hz' : (ps.zip us.toArray).foldl (fun tmps (t, a) => tmps.setIfInBounds t a) tms = (ps.toList.zip us).foldl (fun (tmps : Array Value) (p : Nat × Value) => tmps.setIfInBounds p.1 p.2) tms := hz
  rw [hz']
  obtain ⟨k1, k2⟩ := setP_ok ps.toList vs us (pickT (B.N + off) N s.tm) tms hv hsz (fun t ht => by
    rw [lkT_pickT _ _ _ ht, hg t ht]
    have := h.2.tm (t + (B.N + off))
    unfold vOf at this
    rw [if_neg (by omega)] at this
    rwa [show t + (B.N + off) - B.N = off + t by omega] at this)
  have hlt := setP_lt ps.toList vs (pickT (B.N + off) N s.tm) hps (pickT_lt _ _ _)
  refine ⟨GamS.base (B := B) (B' := B.inr N (vOf B a) (gdOf B a) l) rfl rfl rfl h.1, fun t => ?_, ⟨[], rfl, List.nodup_nil, fun D hD => (by cases hD), fun D hD => ?_⟩, k1⟩
  · show RV E (lkT (setP ps.toList vs (pickT (B.N + off) N s.tm) ++ shT N s.tm) t) (if t < N then ((ps.toList.zip us).foldl (fun (tmps : Array Value) (p : Nat × Value) => tmps.setIfInBounds p.1 p.2) tms).getD t undef else vOf B a (t - N))
    by_cases ht : t < N
    · rw [if_pos ht]
      have app : ∀ (l m : List (Nat × V)), (∀ p ∈ m, N ≤ p.1) → lkT (l ++ m) t = lkT l t := by
        intro l m hm
        induction l with
        | nil =>
          have : ∀ m : List (Nat × V), (∀ p ∈ m, N ≤ p.1) → lkT m t = .any := by
            intro m
            induction m with
            | nil => intro _; rfl
            | cons q m ih =>
              obtain ⟨u, x⟩ := q
              intro hm
              simp only [lkT]
              rw [if_neg (fun e => by have := hm (u, x) (by simp); simp only at this; omega)]
              exact ih fun q hq => hm q (by simp [hq])
          simpa [lkT] using this m hm
        | cons q l ih => obtain ⟨u, x⟩ := q; simp only [List.cons_append, lkT, ih]
      rw [app _ _ (fun p hp => ?_)]
      · exact k2 t ht
      · have : ∀ (l : List (Nat × V)), ∀ p ∈ shT N l, N ≤ p.1 := by
          intro l
          induction l with
          | nil => intro p hp; cases hp
          | cons q l ih =>
            obtain ⟨u, x⟩ := q
            intro p hp
            simp only [shT, List.mem_cons] at hp
            rcases hp with rfl | hp
            · show N ≤ u + N; omega
            · exact ih p hp
        exact this _ p hp
    · rw [if_neg ht, lkT_app _ _ _ (fun p hp e => by have := hlt p hp; omega), lkT_shT, if_pos (by omega)]
      exact h.2.tm (t - N)
  · rcases hD with hD | hD
    · exact e4 D hD
    · rw [e1] at hD
      obtain ⟨X, hX, hm⟩ := List.mem_map.1 hD
      have : X = D := by simpa [mark] using hm
      subst this
      exact (e3 X hX).1
/-- a round's end -/
def ydQ (N y : Nat) (L : LoopC) (d : Option Tmp) (K : St → Prop) : AQ := fun e s => match lkT s.tm (N + y) with
  | .yl m => match lkB s.st m with
    | some (.loop L' _ _) => L' = L ∧ match e with
      | .normal => K ⟨put d (.d (.c (.bool true))) (unT N s.tm), setB m (.loop L .ready none) s.st, s.nx⟩
      | .ret => K ⟨put d (.d (.c (.bool false))) (unT N s.tm), setB m (.loop L .done (some .ret)) s.st, s.nx⟩
      | .exit i => K ⟨put d (.d (.c (.bool false))) (unT N s.tm), setB m (.loop L .done (some (.exit i))) s.st, s.nx⟩
      | _ => False
    | _ => False
  | _ => False
/-- the assignments' end -/
def ydA (P : Program) (Bi : Base) (N y : Nat) (L : LoopC) (body : Code) (d : Option Tmp) (K : St → Prop) : AQ := fun e s => match e with
  | .normal => match lkT s.tm (N + y) with
    | .yl m => match lkB s.st m with
      | some (.loop L' .ready pe) => L' = L ∧ AW P Bi body (ydQ N y L d K) ⟨⟩ ⟨s.tm, setB m (.loop L .busy pe) s.st, s.nx⟩
      | _ => False
    | _ => False
  | _ => False
theorem yieldI_in {n N M : Nat} (y off : Nat) {L : LoopC} {ps : Array Tmp} {assign body : Code} {vs : List V} {d : Option Tmp} {s : St} {K : St → Prop} (hr : B.r = none) (hlk : lkB s.st n = some (.loop L .ready none)) (hL1 : L.ps = ps) (hL2 : L.assign = assign) (hL3 : L.body = body)
    (hvs : vs.length = ps.size) (hps : (ps.toList.all (fun p => decide (p < N))) = true) (hsz : L.tms.size = N) (hM : B.N = M) (hg : ∀ t, t < N → L.tms.getD t undef = B.g (off + t)) (hd : (match d with | some t => decide (t < B.N) | none => true) = true)
    (h : ∀ a, AW P (B.inr N (vOf B a) (gdOf B a) L.l) assign (ydA P (B.inr N (vOf B a) (gdOf B a) L.l) N y L body d K) ⟨⟩ ⟨setP ps.toList vs (pickT (M + off) N s.tm) ++ shT N s.tm, s.st, s.nx⟩) : yieldI P B n vs d s K ⟨⟩ := by
  subst hM
  have hd : ∀ t, d = some t → t < B.N := fun t e => by rw [e] at hd; simpa using hd
  subst hL1 hL2 hL3
  refine ⟨hr, fun E a l us hG hη hv => ?_⟩
  obtain ⟨l', rec, h1, h2, h3, h4⟩ := hG.1.setLoop hlk
  rw [hη] at h1
  cases h1
  have hlen := hv.len
  have hrun := run_yield (P := P) (args := us.toArray) h2 (by rw [h3.2.2.2.1]; simp [hlen, hvs])
  refine ⟨_, _, _, _, hrun, ?_⟩
  rw [h3.2.2.1, h3.2.2.2.1, h3.2.2.2.2.1, h3.2.2.2.2.2.1]
  refine roundIn_of_wpIn (F := fen none) trivial ?_
  have hll : l = L.l := h3.2.2.2.2.2.2
  subst hll
  obtain ⟨Bi, hBi⟩ : ∃ Bi, Bi = B.inr N (vOf B a) (gdOf B a) L.l := ⟨_, rfl⟩
  have hb1 : fen Bi.r = (fen none).inRound L.l := by rw [hBi]; rfl
  rw [← hb1]
  have h0 := h a
  rw [← hBi] at h0
  have hGr := gam_round (l := L.l) hG hv hps hsz hg
  rw [← hBi] at hGr
  refine Code.wpIn_mono ?_ (h0 E _ hGr)
  rintro e a1 w1 ⟨E1, s1, rfl, hG1, hq⟩
  cases e <;> simp only [ydA] at hq <;> try exact hq.elim
  split at hq <;> try exact hq.elim
  rename_i m hm
  split at hq <;> try exact hq.elim
  rename_i L' pe' hlm
  obtain ⟨rfl, hbody⟩ := hq
  obtain ⟨l1, rec1, i1, i2, i3, i4⟩ := hG1.1.setLoop hlm
  have hl1 : l1 = L'.l := i3.2.2.2.2.2.2
  subst hl1
  simp only [Exit.then]
  refine ⟨_, run_beginRound i2 i3.1, ?_⟩
  obtain ⟨S2, X2⟩ := i4 .busy pe'
  have hG2 : Gam P Bi ⟨s1.tm, setB m (.loop L' .busy pe') s1.st, s1.nx⟩ ⟨E1.η, E1.F, E1.w.putObj L'.l (.loop { rec1 with state := .busy, pending := pe' }), E1.dp⟩ a1 := ⟨S2, hG1.2.ext X2 rfl⟩
  have hpe : ({ rec1 with state := .busy } : Loop) = { rec1 with state := .busy, pending := pe' } := by rw [← i3.2.1]
  rw [hpe]
  refine Code.wpIn_mono ?_ (hbody _ _ hG2)
  rintro e a2 w2 ⟨E2, s2, rfl, hG3, hq⟩
  unfold ydQ at hq
  split at hq <;> try exact hq.elim
  rename_i m2 hm2
  split at hq <;> try exact hq.elim
  rename_i L'' st2 pe2 hlm2
  obtain ⟨rfl, hq⟩ := hq
  obtain ⟨l2, rec2, j1, j2, j3, j4⟩ := hG3.1.setLoop hlm2
  have hl2 : l2 = L''.l := j3.2.2.2.2.2.2
  subst hl2
  have fin : ∀ (b : Bool) (jump : Option Code), jump.isNone = b → K ⟨put d (.d (.c (.bool b))) (unT N s2.tm), setB m2 (.loop L'' (if jump.isNone then .ready else .done) jump) s2.st, s2.nx⟩ →
      ∃ v w', (Instr.endRound L''.l jump).run P E2.w = .ok v w' ∧ ∃ u E' s', Ending.returned v = .returned u ∧ E'.w = w' ∧ Gam P B s' E' (a.put d u) ∧ K s' := by
    intro b jump hb hK
    obtain ⟨S4, X4⟩ := j4 (if jump.isNone then .ready else .done) jump
    refine ⟨_, _, run_endRound jump j2, _, ⟨E2.η, E2.F, E2.w.putObj L''.l (.loop { rec2 with state := if jump.isNone then .ready else .done, pending := jump }), E2.dp⟩, _, rfl, rfl, ?_, hK⟩
    have hgl : Gam P B ⟨unT N s2.tm, setB m2 (.loop L'' (if jump.isNone then .ready else .done) jump) s2.st, s2.nx⟩ _ a := gam_leave (N := N) (ds := []) (s' := ⟨s2.tm, setB m2 (.loop L'' (if jump.isNone then .ready else .done) jump) s2.st, s2.nx⟩) (a' := a2) hG (GamS.base (B := Bi) (B' := B.inn N (vOf B a) (gdOf B a)) (by rw [hBi]; rfl) (by rw [hBi]; rfl) (by rw [hBi]; rfl) S4) (fun t => by
      have := RV.mono X4 _ _ (hG3.2.tm t)
      rw [hBi] at this
      exact this) (fun X hX => by
      obtain ⟨_, _, _, _, hgd⟩ := hG3.2.defers
      exact hgd X (by rw [hBi]; exact hX))
    refine ⟨hgl.1, hgl.2.put ?_ hd⟩
    rw [hb]
    simp only [RV, RD]
  cases e <;> simp only at hq <;> try exact hq.elim
  · exact fin true none rfl hq
  · exact fin false (some (.exit _)) rfl hq
  · exact fin false (some .ret) rfl hq
end
end Go.Proofs.Ytfmefdeldgmhpaa

namespace Go.Proofs.Ytfmefdeldgmhpaa
set_option linter.unusedVariables false
set_option linter.unusedSimpArgs false
open Go.RowKit
/-- a value as data, by what the own maps hold -/
def Frz (st : List (Nat × Blk)) : Nat → V → D → Prop
  | 0, v, d => toD v = some d ∨ ∃ ds, v = .agg (dV ds) ∧ d = .ag ds
  | n + 1, v, d => Frz st 0 v d ∨ ∃ m q k zv z0 es z1 z ds, v = .mp m ∧ d = .mp q k zv z (es.map (·.1)) ds ∧ lkB st m = some (.map q k zv z0 es) ∧ Frz st n z0 z1 ∧ (∀ F w u, RD F w z1 u → RD F w z u) ∧ es.length = ds.length ∧ ∀ (i : Nat) x d', es[i]? = some x → ds[i]? = some d' → Frz st n x.2 d'
theorem Frz.d {st : List (Nat × Blk)} {n : Nat} {x : D} : Frz st n (.d x) x := by
  have h0 : Frz st 0 (.d x) x := by unfold Frz; exact Or.inl rfl
  cases n
  · exact h0
  · unfold Frz; exact Or.inl h0
theorem Frz.ag {st : List (Nat × Blk)} {n : Nat} {ds : List D} : Frz st n (.agg (dV ds)) (.ag ds) := by
  have h0 : Frz st 0 (.agg (dV ds)) (.ag ds) := by unfold Frz; exact Or.inr ⟨ds, rfl, rfl⟩
  cases n
  · exact h0
  · unfold Frz; exact Or.inl h0
theorem Frz.mp {st : List (Nat × Blk)} {n m : Nat} {q : KQ} {k : TypeId} {zv : Value} {z0 : V} {es : List (List Int × V)} {z1 z : D} {cs : List (List Int)} {ds : List D} (h1 : lkB st m = some (.map q k zv z0 es)) (h2 : Frz st n z0 z1) (h3 : ∀ F w u, RD F w z1 u → RD F w z u) (hc : cs = es.map (·.1)) (h4 : es.length = ds.length) (h5 : ∀ (i : Nat) x d', es[i]? = some x → ds[i]? = some d' → Frz st n x.2 d') :
    Frz st (n + 1) (.mp m) (.mp q k zv z cs ds) := by
  unfold Frz
  exact Or.inr ⟨m, q, k, zv, z0, es, z1, z, ds, rfl, by rw [hc], h1, h2, h3, h4, h5⟩
/-- the maps that become data -/
def frzF (st : List (Nat × Blk)) (E : Env) : Ft := ⟨E.F.c, fun b => E.F.m b ∨ ∃ m q k zv z0 es, lkB st m = some (.map q k zv z0 es) ∧ E.η m = some (.map (some b))⟩
section
variable {P : Program} {B : Base} {T : Tab}
theorem frz_ext (st : List (Nat × Blk)) (E : Env) : Ext E ⟨E.η, frzF st E, E.w, E.dp⟩ := ⟨fun _ _ h => h, ⟨fun _ _ h => h, fun _ h => .inl h⟩, Kp.refl _ _⟩
theorem rdl_of {F : Ft} {w : World} : ∀ {ds : List D} {us : List Value}, ds.length = us.length → (∀ (i : Nat) d u, ds[i]? = some d → us[i]? = some u → RD F w d u) → RDL F w ds us
  | [], [], _, _ => by simp [RDL]
  | d :: ds, u :: us, hl, h => by
    simp only [RDL]
    exact ⟨u, us, rfl, h 0 d u rfl rfl, rdl_of (by simpa using hl) fun i d' u' h1 h2 => h (i + 1) d' u' (by simpa using h1) (by simpa using h2)⟩
  | [], _ :: _, hl, _ => by simp at hl
  | _ :: _, [], hl, _ => by simp at hl
theorem rmp_get {q : KQ} {k : TypeId} {E : Env} : ∀ {ms : List MapEntry} {es : List (List Int × V)}, RMp P q k E ms es → ms.length = es.length ∧ keysR q ms (es.map (·.1)) ∧ ∀ (i : Nat) e x, ms[i]? = some e → es[i]? = some x → RV E x.2 e.val
  | [], [], _ => ⟨rfl, trivial, fun i e x h => by simp at h⟩
  | a :: ms, (c, y) :: es, h => by
    obtain ⟨i1, i2, i3⟩ := rmp_get h.2
    refine ⟨by simp [i1], ⟨⟨h.1.1, h.1.2.1⟩, i2⟩, fun i e x h1 h2 => ?_⟩
    cases i with
    | zero => simp at h1 h2; subst h1; subst h2; exact h.1.2.2
    | succ i => exact i3 i e x (by simpa using h1) (by simpa using h2)
  | [], _ :: _, h => by simp only [RMp] at h
  | _ :: _, [], h => by simp only [RMp] at h
theorem frz0_ok {st : List (Nat × Blk)} {E : Env} {v : V} {d : D} {u : Value} (h : Frz st 0 v d) (hv : RV E v u) : RD (frzF st E) E.w d u := by
  unfold Frz at h
  rcases h with h | ⟨ds, rfl, rfl⟩
  · exact RD.mono (frz_ext st E).F (frz_ext st E).k _ _ (toD_ok h hv)
  · simp only [RV] at hv
    obtain ⟨us, h1, h2, h3⟩ := hv
    simp only [RD]
    exact ⟨us, h1, RDL.mono (frz_ext st E).F (frz_ext st E).k _ _ (RVL.to_data h2), h3⟩
theorem frz_ok {st : List (Nat × Blk)} {fr : Nat → Prop} {E : Env} (hG : GamS P B (lkB st) fr E) : ∀ (n : Nat) (v : V) (d : D) (u : Value), Frz st n v d → RV E v u → RD (frzF st E) E.w d u
  | 0, v, d, u, h, hv => frz0_ok h hv
  | n + 1, v, d, u, h, hv => by
    unfold Frz at h
    rcases h with h | ⟨m, q, k, zv, z0, es, z1, z, ds, rfl, rfl, h1, h2, h3, h4, h5⟩
    · exact frz0_ok h hv
    · simp only [RV] at hv
      obtain ⟨b, ms, clock, g1, g2, g3, g4, g5, g6⟩ := hG.st m _ h1
      rw [hv.1] at g1
      cases g1
      obtain ⟨i1, i2, i3⟩ := rmp_get g3
      simp only [RD]
      refine ⟨h3 _ _ _ (frz_ok hG n z0 z1 _ h2 g5), by simp [h4], .inr ⟨b, ms, clock, rfl, .inr ⟨m, q, k, zv, z0, es, h1, hv.1⟩, g2, i2, g4, rdl_of (by rw [← h4, ← i1]; simp) fun i d' u' k1 k2 => ?_⟩⟩
      have hie : i < es.length := by rw [h4]; exact (List.getElem?_eq_some_iff.1 k1).1
      have him : i < ms.toList.length := by rw [i1]; exact hie
      rw [List.getElem?_map, List.getElem?_eq_getElem him] at k2
      simp only [Option.map_some, Option.some.injEq] at k2
      subst k2
      exact frz_ok hG n _ d' _ (h5 i _ d' (List.getElem?_eq_getElem hie) k1) (i3 i _ _ (List.getElem?_eq_getElem him) (List.getElem?_eq_getElem hie))
def FrzT (st : List (Nat × Blk)) (tm : List (Nat × V)) : List (Nat × V) → Prop
  | [] => True
  | (t, v) :: l => (∃ n d, v = .d d ∧ Frz st n (lkT tm t) d) ∧ FrzT st tm l
theorem frzT_get {st : List (Nat × Blk)} {tm : List (Nat × V)} : ∀ {l : List (Nat × V)} (t : Nat), FrzT st tm l → lkT l t = .any ∨ ∃ n d, lkT l t = .d d ∧ Frz st n (lkT tm t) d
  | [], t, _ => .inl rfl
  | (u, v) :: l, t, h => by
    simp only [lkT]
    split
    · rename_i e; subst e; exact .inr h.1
    · exact frzT_get t h.2
/-- the own maps become data; the other own blocks are let go -/
theorem wk_frz {s : St} {tm' : List (Nat × V)} (h : FrzT s.st s.tm tm') : Wk P B s ⟨tm', [], s.nx⟩ := by
  intro E a hG
  refine ⟨⟨E.η, frzF s.st E, E.w, E.dp⟩, rfl, ⟨hG.1.os, hG.1.tape, hG.1.output, hG.1.size, hG.1.old, Ft.le_trans hG.1.F0 (frz_ext s.st E).F, hG.1.Fc, fun b hb => ?_, fun n x hx => (by cases hx), fun n m x y b v u _ hx => (by cases hx), hG.1.fresh, fun D hD => ?_⟩, fun t => ?_, hG.2.defers, hG.2.size⟩
  · rcases hb with hb | ⟨m, q, k, zv, z0, es, h1, h2⟩
    · exact hG.1.Fm b hb
    · obtain ⟨b', ms, clock, g1, g2, g3, g4, g5, g6⟩ := hG.1.st m _ h1
      rw [h2] at g1
      cases g1
      exact ⟨.inr g6.1, g6.2.1⟩
  · obtain ⟨d1, d2, d3, d4⟩ := hG.1.dp D hD
    refine ⟨d1, d2, fun hm => ?_, d4⟩
    rcases hm with hm | ⟨m, q, k, zv, z0, es, h1, h2⟩
    · exact d3 hm
    · exact (hG.1.st m _ h1).nodp h2 rfl d1
  · rcases frzT_get t h with h1 | ⟨n, d, h1, h2⟩
    · rw [h1]; simp only [RV]
    · rw [h1]; simp only [RV]
      exact frz_ok hG.1 n _ d _ h2 (hG.2.tm t)
/-- a nil map in the place of no map -/
theorem rd_nilmp {F : Ft} {w : World} {u : Value} {q : KQ} {k : TypeId} {zv : Value} {z0 : D} (hz : RD F w z0 zv) (h : RD F w (.c (.map none)) u) : RD F w (.mp q k zv z0 [] []) u := by
  simp only [RD] at h
  subst h
  simp only [RD]
  exact ⟨hz, by simp⟩
theorem Sub.nilmp {q : KQ} {k : TypeId} {zv : Value} {z0 : D} (hz : ∀ F w, RD F w z0 zv) : Sub (.one (.c (.map none))) (.one (.mp q k zv z0 [] [])) := fun F w v h => rd_nilmp (k := k) (hz F w) h
/-- to look at a state -/
def Seen (_ : St) : Prop := True
theorem aw_see {c : Code} {Q : AQ} {s : St} (h : Seen s → AW P B c Q ⟨⟩ s) : AW P B c Q ⟨⟩ s := h trivial
/-! keys -/
theorem keyOk_int {k : TypeId} (hk : P.underlying k = some (.int .i64)) : KeyOk P k .i := by
  refine ⟨Go.Maps.int_keyed hk, fun u c hu hc => ?_⟩
  obtain ⟨n, rfl, rfl⟩ := keyC_i hu
  have hn : -9223372036854775808 ≤ n ∧ n ≤ 9223372036854775807 := hc.1
  rw [Go.Maps.keyOf_int_mk hk (by simp [Lit.wf, IntKind.min, IntKind.max, IntKind.signed, IntKind.bits]; omega)]
  rfl
theorem keyOk_pair {k e : TypeId} (A : Go.WideMaps.ArrKey P k e 2) (he : P.underlying e = some (.int .i64)) (hsz : ∃ m, P.types.size = m + 1) : KeyOk P k (.p 2) := by
  refine ⟨Go.Maps.Keyed.of_law A.law, fun u c hu hc => ?_⟩
  obtain ⟨cs, rfl, h1⟩ := keyC_p hu
  have h2 := aggC_ok h1
  match c, hc with
  | [a, b], hc =>
    have ha : -9223372036854775808 ≤ a ∧ a ≤ 9223372036854775807 := hc.2.1
    have hb : -9223372036854775808 ≤ b ∧ b ≤ 9223372036854775807 := hc.2.2.1
    have : cs = #[.int .i64 a, .int .i64 b] := by rw [← Array.toArray_toList (xs := cs), h2]; rfl
    rw [this, Go.WideMaps.keyOf_pair A he hsz (by simp [Lit.wf, IntKind.min, IntKind.max, IntKind.signed, IntKind.bits]; omega) (by simp [Lit.wf, IntKind.min, IntKind.max, IntKind.signed, IntKind.bits]; omega)]
    rfl
  | [], hc => simp [fitK] at hc
  | [_], hc => simp [fitK] at hc
  | _ :: _ :: _ :: _, hc => simp [fitK] at hc
/-! == on structs of integers -/
def intFields (P : Program) : Nat → List Field → Bool
  | _, [] => true
  | k, f :: fs => f.offset == k && (match P.underlying f.type with | some (.int .i64) => true | _ => false) && f.name != "_" && intFields P (k + 1) fs
theorem run_eqFields (w : World) (d : Nat) : ∀ (fs : List Field) (k : Nat) (p q a b : List Int), intFields P k fs = true → p.length = k → q.length = k → a.length = fs.length → b.length = fs.length →
    (Op.eqFields (d + 1) ((p ++ a).map (Value.int .i64)).toArray ((q ++ b).map (Value.int .i64)).toArray fs).run P w = .ok (a == b) w
  | [], k, p, q, [], [], _, _, _, _, _ => by simp [Op.eqFields]
  | f :: fs, k, p, q, x :: a, y :: b, h, hp, hq, ha, hb => by
    simp only [intFields, Bool.and_eq_true] at h
    obtain ⟨⟨⟨h1, h2⟩, h3⟩, h4⟩ := h
    have hu : P.underlying f.type = some (.int .i64) := by
      revert h2
      cases hq : P.underlying f.type with
      | none => simp
      | some t =>
        cases t <;> simp
        rename_i k
        cases k <;> simp
    have ho : f.offset = k := by simpa using h1
    have hn : f.name ≠ "_" := by simpa using h3
    have pt : ∀ (p a : List Int) (x : Int), p.length = k → (part f.type ((p ++ x :: a).map (Value.int .i64)).toArray f.offset).run P w = .ok (.int .i64 x) w := fun p a x hp => by
      have : ((p ++ x :: a).map (Value.int .i64)).toArray[f.offset]? = some (.int .i64 x) := by
        rw [ho, ← hp]; simp
      unfold part
      simp only [Sem.run_bind, isAgg, run_underlying hu, Result.andThen_ok, Sem.run_pure, Bool.false_eq_true, if_false, this]
    have ih := run_eqFields w d fs (k + 1) (p ++ [x]) (q ++ [y]) a b h4 (by simp [hp]) (by simp [hq]) (by simpa using ha) (by simpa using hb)
    simp only [List.append_assoc, List.cons_append, List.nil_append] at ih
    simp only [Op.eqFields, hn, ne_eq, not_false_eq_true, if_true, Sem.run_bind, pt p a x hp, pt q b y hq, Result.andThen_ok, run_equalIn_int w d f.type .i64 .i64 x y hu]
    by_cases hxy : x = y
    · subst hxy
      simpa using ih
    · have : (x == y) = false := by simpa using hxy
      simp [this]
  | [], _, _, _, _ :: _, _, _, _, _, h, _ => by simp at h
  | [], _, _, _, [], _ :: _, _, _, _, _, h => by simp at h
  | _ :: _, _, _, _, [], _, _, _, _, h, _ => by simp at h
  | _ :: _, _, _, _, _ :: _, [], _, _, _, _, h => by simp at h
theorem eqInts_struct {t n : Nat} (ht : P.underlying t = some (.struct (P.fieldsOf t))) (hp : P.stoodInHeld t = false) (hm : P.eqGuardType P.depth t = false) (hf : intFields P 0 (P.fieldsOf t).toList = true) (hn : (P.fieldsOf t).toList.length = n) : EqInts P t n := by
  intro w x y a b ha hb op hop
  have he : (Op.equalIn 10000 t (.agg (a.map (Value.int .i64)).toArray) (.agg (b.map (Value.int .i64)).toArray)).run P w = .ok (a == b) w := by
    rw [run_equalIn_struct w 9999 t _ _ ht hp]
    exact run_eqFields w 9998 _ 0 [] [] a b hf rfl rfl (by omega) (by omega)
  rcases hop with rfl | rfl
  · simp only [Sem.run_bind, run_eqGuard_agg w _ t x y _ _ hm, Result.andThen_ok, run_eql_struct, he]
    rfl
  · simp only [Sem.run_bind, run_eqGuard_agg w _ t x y _ _ hm, Result.andThen_ok, run_neq_struct, he]
    rfl
end
end Go.Proofs.Ytfmefdeldgmhpaa

namespace Go.Proofs.Ytfmefdeldgmhpaa
def T : Tab := [
  (1, ⟨.oth, 1, .nilFunc, 8⟩),
  (2, ⟨.int .i64, 1, .int .i64 0, 8⟩),
  (3, ⟨.int .i64, 1, .int .i64 0, 8⟩),
  (4, ⟨.bool, 1, .bool false, 1⟩),
  (5, ⟨.int .u8, 1, .int .u8 0, 1⟩),
  (9, ⟨.str, 1, .string ⟨#[]⟩, 16⟩),
  (12, ⟨.int .u64, 1, .int .u64 0, 8⟩),
  (13, ⟨.struct [(0, 1), (1, 1)], 2, .agg #[.string ⟨#[]⟩, .int .u64 0], 24⟩),
  (21, ⟨.int .i32, 1, .int .i32 0, 4⟩),
  (22, ⟨.slice 39, 1, .slice none 0 0, 24⟩),
  (23, ⟨.oth, 1, .nilFunc, 8⟩),
  (24, ⟨.oth, 1, .nilFunc, 8⟩),
  (25, ⟨.struct [(0, 1), (1, 1), (2, 1)], 3, .agg #[.int .i64 0, .int .i64 0, .int .i64 0], 24⟩),
  (26, ⟨.struct [(0, 1), (1, 1), (2, 1)], 3, .agg #[.int .i64 0, .int .i64 0, .int .i64 0], 24⟩),
  (27, ⟨.int .i64, 1, .int .i64 0, 8⟩),
  (29, ⟨.oth, 1, .nilFunc, 8⟩),
  (30, ⟨.slice 3, 1, .slice none 0 0, 24⟩),
  (32, ⟨.oth, 1, .nilFunc, 8⟩),
  (33, ⟨.oth, 1, .nilFunc, 8⟩),
  (34, ⟨.oth, 1, .nilFunc, 8⟩),
  (36, ⟨.oth, 1, .nilFunc, 8⟩),
  (37, ⟨.oth, 1, .nilFunc, 8⟩),
  (38, ⟨.struct [(0, 1), (1, 1), (2, 1), (3, 1), (4, 1), (5, 1), (6, 1), (7, 1)], 8, .agg #[.int .i64 0, .int .i64 0, .int .i64 0, .int .i64 0, .int .i64 0, .int .i64 0, .int .i64 0, .int .i64 0], 64⟩),
  (39, ⟨.struct [(0, 1), (1, 1), (2, 1), (3, 1), (4, 1), (5, 1), (6, 1), (7, 1)], 8, .agg #[.int .i64 0, .int .i64 0, .int .i64 0, .int .i64 0, .int .i64 0, .int .i64 0, .int .i64 0, .int .i64 0], 64⟩),
  (40, ⟨.oth, 1, .nilFunc, 8⟩),
  (41, ⟨.oth, 1, .nilFunc, 8⟩),
  (42, ⟨.oth, 1, .nilFunc, 8⟩),
  (43, ⟨.oth, 1, .nilFunc, 8⟩),
  (44, ⟨.oth, 1, .nilFunc, 8⟩),
  (45, ⟨.oth, 1, .nilFunc, 8⟩),
  (46, ⟨.oth, 1, .nilFunc, 8⟩),
  (47, ⟨.oth, 1, .nilFunc, 8⟩),
  (48, ⟨.slice 5, 1, .slice none 0 0, 24⟩),
  (50, ⟨.oth, 1, .nilFunc, 8⟩),
  (51, ⟨.oth, 1, .nilFunc, 8⟩),
  (52, ⟨.oth, 1, .nilFunc, 8⟩),
  (53, ⟨.oth, 1, .nilFunc, 8⟩),
  (54, ⟨.oth, 1, .nilFunc, 8⟩),
  (55, ⟨.map 3 63, 1, .map none, 8⟩),
  (56, ⟨.map 3 63, 1, .map none, 8⟩),
  (58, ⟨.oth, 1, .nilFunc, 8⟩),
  (59, ⟨.oth, 1, .nilFunc, 8⟩),
  (60, ⟨.oth, 1, .nilFunc, 8⟩),
  (61, ⟨.oth, 1, .nilFunc, 8⟩),
  (63, ⟨.map 3 39, 1, .map none, 8⟩),
  (64, ⟨.oth, 1, .nilFunc, 8⟩),
  (65, ⟨.oth, 1, .nilFunc, 8⟩),
  (66, ⟨.struct [(0, 1), (1, 1)], 2, .agg #[.nilFunc, .nilFunc], 16⟩),
  (67, ⟨.slice 66, 1, .slice none 0 0, 24⟩),
  (69, ⟨.oth, 1, .nilFunc, 8⟩),
  (70, ⟨.oth, 1, .nilFunc, 8⟩),
  (71, ⟨.oth, 1, .nilFunc, 8⟩),
  (72, ⟨.map 76 39, 1, .map none, 8⟩),
  (73, ⟨.oth, 1, .nilFunc, 8⟩),
  (74, ⟨.oth, 1, .nilFunc, 8⟩),
  (75, ⟨.oth, 1, .nilFunc, 8⟩),
  (76, ⟨.arr 2 3, 2, .agg #[.int .i64 0, .int .i64 0], 16⟩),
  (77, ⟨.oth, 1, .nilFunc, 8⟩),
  (78, ⟨.oth, 1, .nilFunc, 8⟩),
  (79, ⟨.oth, 1, .nilFunc, 8⟩),
  (80, ⟨.oth, 1, .nilFunc, 8⟩),
  (82, ⟨.oth, 1, .nilFunc, 8⟩),
  (83, ⟨.oth, 1, .nilFunc, 8⟩),
  (84, ⟨.oth, 1, .nilFunc, 8⟩),
  (85, ⟨.oth, 1, .nilFunc, 8⟩),
  (86, ⟨.map 3 4, 1, .map none, 8⟩),
  (87, ⟨.oth, 1, .nilFunc, 8⟩),
  (89, ⟨.map 3 87, 1, .map none, 8⟩),
  (90, ⟨.oth, 1, .nilFunc, 8⟩),
  (91, ⟨.int .u64, 1, .int .u64 0, 8⟩),
  (92, ⟨.oth, 1, .nilFunc, 8⟩),
  (93, ⟨.oth, 1, .nilFunc, 8⟩),
  (94, ⟨.oth, 1, .nilFunc, 8⟩),
  (100, ⟨.oth, 1, .nilFunc, 8⟩),
  (101, ⟨.int .u32, 1, .int .u32 0, 4⟩),
  (104, ⟨.oth, 1, .nilFunc, 8⟩),
  (105, ⟨.oth, 1, .pointer none, 8⟩)]
theorem T_ok : TabOk Try.prog T := by
  refine ⟨?_, ?_, ?_, ?_, ?_, ?_, ?_, ?_, ?_, ?_, ?_, ?_, ?_, ?_, ?_, ?_, ?_, ?_, ?_, ?_, ?_, ?_, ?_, ?_, ?_, ?_, ?_, ?_, ?_, ?_, ?_, ?_, ?_, ?_, ?_, ?_, ?_, ?_, ?_, ?_, ?_, ?_, ?_, ?_, ?_, ?_, ?_, ?_, ?_, ?_, ?_, ?_, ?_, ?_, ?_, ?_, ?_, ?_, ?_, ?_, ?_, ?_, ?_, ?_, ?_, ?_, ?_, ?_, ?_, ?_, ?_, ?_, ?_, ?_, ?_, ?_, ?_, trivial⟩ <;> exact ⟨by kernel_rfl, by simp only [kdOk]; kernel_rfl⟩
theorem ty_1 : ty T 1 = some ⟨.oth, 1, .nilFunc, 8⟩ := by kernel_rfl
theorem ty_2 : ty T 2 = some ⟨.int .i64, 1, .int .i64 0, 8⟩ := by kernel_rfl
theorem ty_3 : ty T 3 = some ⟨.int .i64, 1, .int .i64 0, 8⟩ := by kernel_rfl
theorem ty_4 : ty T 4 = some ⟨.bool, 1, .bool false, 1⟩ := by kernel_rfl
theorem ty_5 : ty T 5 = some ⟨.int .u8, 1, .int .u8 0, 1⟩ := by kernel_rfl
theorem ty_9 : ty T 9 = some ⟨.str, 1, .string ⟨#[]⟩, 16⟩ := by kernel_rfl
theorem ty_12 : ty T 12 = some ⟨.int .u64, 1, .int .u64 0, 8⟩ := by kernel_rfl
theorem ty_13 : ty T 13 = some ⟨.struct [(0, 1), (1, 1)], 2, .agg #[.string ⟨#[]⟩, .int .u64 0], 24⟩ := by kernel_rfl
theorem ty_21 : ty T 21 = some ⟨.int .i32, 1, .int .i32 0, 4⟩ := by kernel_rfl
theorem ty_22 : ty T 22 = some ⟨.slice 39, 1, .slice none 0 0, 24⟩ := by kernel_rfl
theorem ty_23 : ty T 23 = some ⟨.oth, 1, .nilFunc, 8⟩ := by kernel_rfl
theorem ty_24 : ty T 24 = some ⟨.oth, 1, .nilFunc, 8⟩ := by kernel_rfl
theorem ty_25 : ty T 25 = some ⟨.struct [(0, 1), (1, 1), (2, 1)], 3, .agg #[.int .i64 0, .int .i64 0, .int .i64 0], 24⟩ := by kernel_rfl
theorem ty_26 : ty T 26 = some ⟨.struct [(0, 1), (1, 1), (2, 1)], 3, .agg #[.int .i64 0, .int .i64 0, .int .i64 0], 24⟩ := by kernel_rfl
theorem ty_27 : ty T 27 = some ⟨.int .i64, 1, .int .i64 0, 8⟩ := by kernel_rfl
theorem ty_29 : ty T 29 = some ⟨.oth, 1, .nilFunc, 8⟩ := by kernel_rfl
theorem ty_30 : ty T 30 = some ⟨.slice 3, 1, .slice none 0 0, 24⟩ := by kernel_rfl
theorem ty_32 : ty T 32 = some ⟨.oth, 1, .nilFunc, 8⟩ := by kernel_rfl
theorem ty_33 : ty T 33 = some ⟨.oth, 1, .nilFunc, 8⟩ := by kernel_rfl
theorem ty_34 : ty T 34 = some ⟨.oth, 1, .nilFunc, 8⟩ := by kernel_rfl
theorem ty_36 : ty T 36 = some ⟨.oth, 1, .nilFunc, 8⟩ := by kernel_rfl
theorem ty_37 : ty T 37 = some ⟨.oth, 1, .nilFunc, 8⟩ := by kernel_rfl
theorem ty_38 : ty T 38 = some ⟨.struct [(0, 1), (1, 1), (2, 1), (3, 1), (4, 1), (5, 1), (6, 1), (7, 1)], 8, .agg #[.int .i64 0, .int .i64 0, .int .i64 0, .int .i64 0, .int .i64 0, .int .i64 0, .int .i64 0, .int .i64 0], 64⟩ := by kernel_rfl
theorem ty_39 : ty T 39 = some ⟨.struct [(0, 1), (1, 1), (2, 1), (3, 1), (4, 1), (5, 1), (6, 1), (7, 1)], 8, .agg #[.int .i64 0, .int .i64 0, .int .i64 0, .int .i64 0, .int .i64 0, .int .i64 0, .int .i64 0, .int .i64 0], 64⟩ := by kernel_rfl
theorem ty_40 : ty T 40 = some ⟨.oth, 1, .nilFunc, 8⟩ := by kernel_rfl
theorem ty_41 : ty T 41 = some ⟨.oth, 1, .nilFunc, 8⟩ := by kernel_rfl
theorem ty_42 : ty T 42 = some ⟨.oth, 1, .nilFunc, 8⟩ := by kernel_rfl
theorem ty_43 : ty T 43 = some ⟨.oth, 1, .nilFunc, 8⟩ := by kernel_rfl
theorem ty_44 : ty T 44 = some ⟨.oth, 1, .nilFunc, 8⟩ := by kernel_rfl
theorem ty_45 : ty T 45 = some ⟨.oth, 1, .nilFunc, 8⟩ := by kernel_rfl
theorem ty_46 : ty T 46 = some ⟨.oth, 1, .nilFunc, 8⟩ := by kernel_rfl
theorem ty_47 : ty T 47 = some ⟨.oth, 1, .nilFunc, 8⟩ := by kernel_rfl
theorem ty_48 : ty T 48 = some ⟨.slice 5, 1, .slice none 0 0, 24⟩ := by kernel_rfl
theorem ty_50 : ty T 50 = some ⟨.oth, 1, .nilFunc, 8⟩ := by kernel_rfl
theorem ty_51 : ty T 51 = some ⟨.oth, 1, .nilFunc, 8⟩ := by kernel_rfl
theorem ty_52 : ty T 52 = some ⟨.oth, 1, .nilFunc, 8⟩ := by kernel_rfl
theorem ty_53 : ty T 53 = some ⟨.oth, 1, .nilFunc, 8⟩ := by kernel_rfl
theorem ty_54 : ty T 54 = some ⟨.oth, 1, .nilFunc, 8⟩ := by kernel_rfl
theorem ty_55 : ty T 55 = some ⟨.map 3 63, 1, .map none, 8⟩ := by kernel_rfl
theorem ty_56 : ty T 56 = some ⟨.map 3 63, 1, .map none, 8⟩ := by kernel_rfl
theorem ty_58 : ty T 58 = some ⟨.oth, 1, .nilFunc, 8⟩ := by kernel_rfl
theorem ty_59 : ty T 59 = some ⟨.oth, 1, .nilFunc, 8⟩ := by kernel_rfl
theorem ty_60 : ty T 60 = some ⟨.oth, 1, .nilFunc, 8⟩ := by kernel_rfl
theorem ty_61 : ty T 61 = some ⟨.oth, 1, .nilFunc, 8⟩ := by kernel_rfl
theorem ty_63 : ty T 63 = some ⟨.map 3 39, 1, .map none, 8⟩ := by kernel_rfl
theorem ty_64 : ty T 64 = some ⟨.oth, 1, .nilFunc, 8⟩ := by kernel_rfl
theorem ty_65 : ty T 65 = some ⟨.oth, 1, .nilFunc, 8⟩ := by kernel_rfl
theorem ty_66 : ty T 66 = some ⟨.struct [(0, 1), (1, 1)], 2, .agg #[.nilFunc, .nilFunc], 16⟩ := by kernel_rfl
theorem ty_67 : ty T 67 = some ⟨.slice 66, 1, .slice none 0 0, 24⟩ := by kernel_rfl
theorem ty_69 : ty T 69 = some ⟨.oth, 1, .nilFunc, 8⟩ := by kernel_rfl
theorem ty_70 : ty T 70 = some ⟨.oth, 1, .nilFunc, 8⟩ := by kernel_rfl
theorem ty_71 : ty T 71 = some ⟨.oth, 1, .nilFunc, 8⟩ := by kernel_rfl
theorem ty_72 : ty T 72 = some ⟨.map 76 39, 1, .map none, 8⟩ := by kernel_rfl
theorem ty_73 : ty T 73 = some ⟨.oth, 1, .nilFunc, 8⟩ := by kernel_rfl
theorem ty_74 : ty T 74 = some ⟨.oth, 1, .nilFunc, 8⟩ := by kernel_rfl
theorem ty_75 : ty T 75 = some ⟨.oth, 1, .nilFunc, 8⟩ := by kernel_rfl
theorem ty_76 : ty T 76 = some ⟨.arr 2 3, 2, .agg #[.int .i64 0, .int .i64 0], 16⟩ := by kernel_rfl
theorem ty_77 : ty T 77 = some ⟨.oth, 1, .nilFunc, 8⟩ := by kernel_rfl
theorem ty_78 : ty T 78 = some ⟨.oth, 1, .nilFunc, 8⟩ := by kernel_rfl
theorem ty_79 : ty T 79 = some ⟨.oth, 1, .nilFunc, 8⟩ := by kernel_rfl
theorem ty_80 : ty T 80 = some ⟨.oth, 1, .nilFunc, 8⟩ := by kernel_rfl
theorem ty_82 : ty T 82 = some ⟨.oth, 1, .nilFunc, 8⟩ := by kernel_rfl
theorem ty_83 : ty T 83 = some ⟨.oth, 1, .nilFunc, 8⟩ := by kernel_rfl
theorem ty_84 : ty T 84 = some ⟨.oth, 1, .nilFunc, 8⟩ := by kernel_rfl
theorem ty_85 : ty T 85 = some ⟨.oth, 1, .nilFunc, 8⟩ := by kernel_rfl
theorem ty_86 : ty T 86 = some ⟨.map 3 4, 1, .map none, 8⟩ := by kernel_rfl
theorem ty_87 : ty T 87 = some ⟨.oth, 1, .nilFunc, 8⟩ := by kernel_rfl
theorem ty_89 : ty T 89 = some ⟨.map 3 87, 1, .map none, 8⟩ := by kernel_rfl
theorem ty_90 : ty T 90 = some ⟨.oth, 1, .nilFunc, 8⟩ := by kernel_rfl
theorem ty_91 : ty T 91 = some ⟨.int .u64, 1, .int .u64 0, 8⟩ := by kernel_rfl
theorem ty_92 : ty T 92 = some ⟨.oth, 1, .nilFunc, 8⟩ := by kernel_rfl
theorem ty_93 : ty T 93 = some ⟨.oth, 1, .nilFunc, 8⟩ := by kernel_rfl
theorem ty_94 : ty T 94 = some ⟨.oth, 1, .nilFunc, 8⟩ := by kernel_rfl
theorem ty_100 : ty T 100 = some ⟨.oth, 1, .nilFunc, 8⟩ := by kernel_rfl
theorem ty_101 : ty T 101 = some ⟨.int .u32, 1, .int .u32 0, 4⟩ := by kernel_rfl
theorem ty_104 : ty T 104 = some ⟨.oth, 1, .nilFunc, 8⟩ := by kernel_rfl
theorem ty_105 : ty T 105 = some ⟨.oth, 1, .pointer none, 8⟩ := by kernel_rfl
end Go.Proofs.Ytfmefdeldgmhpaa

namespace Go.Proofs.Ytfmefdeldgmhpaa
set_option linter.unusedSimpArgs false
set_option linter.unusedVariables false
structure Ent where
  no : Int
  kind : Int
  a : Int
  b : Int
  frm : Int
  til : Int
  known : Int
  gone : Int
  deriving DecidableEq
def Ent.key (x : Ent) : Int × Int := (x.kind, x.a)
def idB (n : Int) : Bool := decide (0 ≤ n) && decide (n ≤ 1048576)
def countsB (day time : Int) (x : Ent) : Bool := decide (x.frm ≤ day) && decide (day < x.til) && decide (x.known ≤ time) && decide (time < x.gone)
def oneB (x : Ent) : Bool := x.kind == 1 || x.kind == 2
def replB (y x : Ent) : Bool := y.key == x.key && oneB x && (decide (x.frm < y.frm) || y.frm == x.frm && decide (x.no < y.no))
/-- the specification: what stands -/
def standRef (day time : Int) (l : List Ent) : List Ent := l.filter (fun x => countsB day time x && !(l.any (fun y => countsB day time y && replB y x)))
abbrev KMap := Int × Int → Option Ent
def KMap.upd (m : KMap) (y : Ent) : KMap := fun κ => if κ = y.key then some y else m κ
def KMap.put (m : KMap) (y : Ent) : KMap := match m y.key with
  | some o => if o.frm ≤ y.frm then m.upd y else m
  | none => m.upd y
/-- the last one of each kind and person -/
def lastE (c : List Ent) : KMap := c.foldl KMap.put (fun _ => none)
/-- the code: what stands -/
def standSrc (day time : Int) (l : List Ent) : List Ent :=
  (l.filter (countsB day time)).filter (fun y => !oneB y || lastE (l.filter (countsB day time)) y.key == some y)
def LastOf (p : List Ent) (m : KMap) : Prop := ∀ κ, match m κ with
  | none => ∀ z ∈ p, z.key ≠ κ
  | some y => y ∈ p ∧ y.key = κ ∧ ∀ z ∈ p, z.key = κ → z.frm < y.frm ∨ (z.frm = y.frm ∧ z.no ≤ y.no)
theorem LastOf.upd {p : List Ent} {m : KMap} {y : Ent} (h : LastOf p m) (hmax : ∀ z ∈ p, z.key = y.key → z.frm < y.frm ∨ (z.frm = y.frm ∧ z.no ≤ y.no)) : LastOf (p ++ [y]) (m.upd y) := by
  intro κ
  unfold KMap.upd
  by_cases hk : κ = y.key
  · subst hk
    rw [if_pos rfl]
    refine ⟨by simp, rfl, fun z hz hzk => ?_⟩
    rcases List.mem_append.1 hz with hz | hz
    · exact hmax z hz hzk
    · rw [List.mem_singleton.1 hz]; exact .inr ⟨rfl, Int.le_refl _⟩
  · rw [if_neg hk]
    have hκ := h κ
    cases hm : m κ with
    | none =>
      rw [hm] at hκ
      intro z hz
      rcases List.mem_append.1 hz with hz | hz
      · exact hκ z hz
      · rw [List.mem_singleton.1 hz]; exact fun e => hk e.symm
    | some o =>
      rw [hm] at hκ
      obtain ⟨h1, h2, h3⟩ := hκ
      refine ⟨List.mem_append_left _ h1, h2, fun z hz hzk => ?_⟩
      rcases List.mem_append.1 hz with hz | hz
      · exact h3 z hz hzk
      · rw [List.mem_singleton.1 hz] at hzk; exact absurd hzk.symm hk
theorem LastOf.put {p : List Ent} {m : KMap} {y : Ent} (h : LastOf p m) (hno : ∀ z ∈ p, z.no < y.no) : LastOf (p ++ [y]) (m.put y) := by
  have hk := h y.key
  unfold KMap.put
  cases hm : m y.key with
  | none =>
    rw [hm] at hk
    exact h.upd (fun z hz hzk => absurd hzk (hk z hz))
  | some o =>
    rw [hm] at hk
    obtain ⟨h1, h2, h3⟩ := hk
    by_cases hf : o.frm ≤ y.frm
    · simp only [hf, if_true]
      exact h.upd (fun z hz hzk => by have a1 := h3 z hz hzk; have a2 := hno z hz; omega)
    · simp only [hf, if_false]
      intro κ
      have hκ := h κ
      cases hm' : m κ with
      | none =>
        rw [hm'] at hκ
        intro z hz
        rcases List.mem_append.1 hz with hz | hz
        · exact hκ z hz
        · rw [List.mem_singleton.1 hz]
          intro e
          rw [← e, hm] at hm'
          cases hm'
      | some u =>
        rw [hm'] at hκ
        obtain ⟨g1, g2, g3⟩ := hκ
        refine ⟨List.mem_append_left _ g1, g2, fun z hz hzk => ?_⟩
        rcases List.mem_append.1 hz with hz | hz
        · exact g3 z hz hzk
        · have e := List.mem_singleton.1 hz
          subst e
          rw [← hzk, hm] at hm'
          cases hm'
          omega
theorem LastOf.fold : ∀ (c p : List Ent) (m : KMap), LastOf p m → (p ++ c).Pairwise (fun x y => x.no < y.no) → LastOf (p ++ c) (c.foldl KMap.put m)
  | [], p, m, h, _ => by simpa using h
  | y :: c, p, m, h, hp => by
    have e : p ++ y :: c = (p ++ [y]) ++ c := by simp
    rw [e] at hp ⊢
    refine LastOf.fold c (p ++ [y]) (m.put y) (h.put (fun z hz => ?_)) hp
    have := (List.pairwise_append.1 hp).1
    exact (List.pairwise_append.1 this).2.2 z hz y (by simp)
theorem lastE_of (c : List Ent) (hp : c.Pairwise (fun x y => x.no < y.no)) : LastOf c (lastE c) := by
  have h := LastOf.fold c [] (fun _ => none) (fun κ z hz => by cases hz) (by simpa using hp)
  simpa [lastE] using h
/-- both ways lead to the same -/
theorem stand_eq (day time : Int) (l : List Ent) (hp : l.Pairwise (fun x y => x.no < y.no)) : standSrc day time l = standRef day time l := by
  unfold standSrc standRef
  rw [List.filter_filter]
  refine List.filter_congr (fun x hx => ?_)
  have hL := lastE_of (l.filter (countsB day time)) (hp.sublist List.filter_sublist)
  generalize lastE (l.filter (countsB day time)) = m at hL
  cases hc : countsB day time x with
  | false => simp
  | true =>
    simp only [Bool.and_true, Bool.true_and]
    have hxc : x ∈ l.filter (countsB day time) := List.mem_filter.2 ⟨hx, hc⟩
    cases ho : oneB x with
    | false =>
      have : l.any (fun y => countsB day time y && replB y x) = false := by
        rw [List.any_eq_false]
        intro y _
        simp [replB, ho]
      rw [this]
      rfl
    | true =>
      have hk := hL x.key
      cases hm : m x.key with
      | none => rw [hm] at hk; exact absurd rfl (hk x hxc)
      | some u =>
        rw [hm] at hk
        obtain ⟨h1, h2, h3⟩ := hk
        obtain ⟨hul, huc⟩ := List.mem_filter.1 h1
        by_cases hux : u = x
        · subst hux
          have : l.any (fun y => countsB day time y && replB y u) = false := by
            rw [List.any_eq_false]
            intro y hy hh
            simp only [Bool.and_eq_true, replB, beq_iff_eq, Bool.or_eq_true, decide_eq_true_eq] at hh
            have := h3 y (List.mem_filter.2 ⟨hy, hh.1⟩) hh.2.1.1
            omega
          rw [this]
          simp
        · have hne : u.no ≠ x.no := fun e => by
            obtain ⟨i, hi, ei⟩ := List.getElem_of_mem hul
            obtain ⟨j, hj, ej⟩ := List.getElem_of_mem hx
            have hp' := List.pairwise_iff_getElem.1 hp
            rcases Nat.lt_trichotomy i j with hij | hij | hij
            · have := hp' i j hi hj hij
              rw [ei, ej] at this
              omega
            · subst hij
              exact hux (ei.symm.trans ej)
            · have := hp' j i hj hi hij
              rw [ei, ej] at this
              omega
          have : l.any (fun y => countsB day time y && replB y x) = true := by
            rw [List.any_eq_true]
            refine ⟨u, hul, ?_⟩
            have := h3 x hxc rfl
            simp only [Bool.and_eq_true, replB, beq_iff_eq, Bool.or_eq_true, decide_eq_true_eq]
            exact ⟨huc, ⟨h2, ho⟩, by omega⟩
          rw [this]
          simp [hux]
end Go.Proofs.Ytfmefdeldgmhpaa

namespace Go.Proofs.Ytfmefdeldgmhpaa
set_option linter.unusedSimpArgs false
set_option linter.unusedVariables false
def spanB (x y : Int) : Bool := decide (0 ≤ x) && decide (x < y) && decide (y ≤ 2097152)
def fitsB (x : Ent) : Bool :=
  if x.kind = 1 then decide (0 ≤ x.b) && decide (x.b < 24) else if x.kind = 2 then !(x.a == x.b) && idB x.b else if x.kind = 3 ∨ x.kind = 4 then x.b == 0 else false
def validE (x : Ent) : Bool := idB x.no && idB x.a && spanB x.frm x.til && spanB x.known x.gone && fitsB x
def goodL : Int → List Ent → Bool
  | _, [] => true
  | last, x :: r => validE x && decide (last < x.no) && goodL x.no r
def checkL (l : List Ent) : Int := if 1024 < l.length then 2 else if goodL (-1) l then 0 else 330
theorem goodL_spec : ∀ (l : List Ent) (last : Int), goodL last l = true → (∀ x ∈ l, last < x.no) ∧ l.Pairwise (fun x y => x.no < y.no) ∧ ∀ x ∈ l, validE x = true
  | [], _, _ => ⟨by simp, List.Pairwise.nil, by simp⟩
  | x :: r, last, h => by
    simp only [goodL, Bool.and_eq_true, decide_eq_true_eq] at h
    obtain ⟨⟨h1, h2⟩, h3⟩ := h
    obtain ⟨g1, g2, g3⟩ := goodL_spec r x.no h3
    refine ⟨fun y hy => ?_, List.pairwise_cons.2 ⟨g1, g2⟩, fun y hy => ?_⟩
    · rcases List.mem_cons.1 hy with rfl | hy
      · exact h2
      · have := g1 y hy; omega
    · rcases List.mem_cons.1 hy with rfl | hy
      · exact h1
      · exact g3 y hy
theorem checkL_ok {l : List Ent} (h : checkL l = 0) : l.length ≤ 1024 ∧ l.Pairwise (fun x y => x.no < y.no) ∧ ∀ x ∈ l, validE x = true := by
  unfold checkL at h
  split at h
  · cases h
  · split at h
    · rename_i h1 h2
      obtain ⟨_, g2, g3⟩ := goodL_spec l (-1) h2
      exact ⟨by omega, g2, g3⟩
    · cases h
/-- the people who are asked from p on, and whether they are a circle; those of met were asked before -/
def chainF (nx : Int → Option Int) : Nat → List Int → Int → List Int × Bool
  | 0, _, p => ([p], false)
  | n + 1, met, p => match nx p with
    | none => ([p], false)
    | some q => if q ∈ p :: met then ([p], true) else (p :: (chainF nx n (p :: met) q).1, (chainF nx n (p :: met) q).2)
theorem filter_shrinks (K met : List Int) (p : Int) (hp : p ∈ K) (hm : p ∉ met) : (K.filter (fun x => decide (x ∉ p :: met))).length < (K.filter (fun x => decide (x ∉ met))).length := by
  induction K with
  | nil => cases hp
  | cons k K ih =>
    have hle : (K.filter (fun x => decide (x ∉ p :: met))).length ≤ (K.filter (fun x => decide (x ∉ met))).length := by
      have e : K.filter (fun x => decide (x ∉ p :: met)) = (K.filter (fun x => decide (x ∉ met))).filter (fun x => decide (x ≠ p)) := by
        rw [List.filter_filter]
        refine List.filter_congr (fun x _ => ?_)
        simp [List.mem_cons, not_or]
      rw [e]
      exact List.length_filter_le _ _
    by_cases hk : k = p
    · subst hk
      rw [List.filter_cons, List.filter_cons, if_neg (by simp), if_pos (by simpa using hm)]
      simp only [List.length_cons]
      omega
    · have hpK : p ∈ K := by
        rcases List.mem_cons.1 hp with e | h
        · exact absurd e.symm hk
        · exact h
      have := ih hpK
      rw [List.filter_cons, List.filter_cons]
      by_cases hkm : k ∈ met
      · rw [if_neg (by simp [hkm]), if_neg (by simp [hkm])]
        exact this
      · rw [if_pos (by simp [hkm, hk]), if_pos (by simp [hkm])]
        simp only [List.length_cons]
        omega
/-- more rounds change nothing -/
theorem chainF_more (nx : Int → Option Int) (K : List Int) (hK : ∀ p, nx p ≠ none → p ∈ K) : ∀ (n : Nat) (met : List Int) (p : Int), p ∉ met → (K.filter (fun x => decide (x ∉ met))).length ≤ n → ∀ m, n ≤ m → chainF nx m met p = chainF nx n met p := by
  intro n
  induction n with
  | zero =>
    intro met p hp hn m _
    have hnx : nx p = none := by
      cases h : nx p with
      | none => rfl
      | some q =>
        have hpK := hK p (by rw [h]; simp)
        have := filter_shrinks K met p hpK hp
        omega
    cases m with
    | zero => rfl
    | succ m => simp [chainF, hnx]
  | succ n ih =>
    intro met p hp hn m hm
    cases m with
    | zero => omega
    | succ m =>
      simp only [chainF]
      cases h : nx p with
      | none => rfl
      | some q =>
        simp only []
        by_cases hq : q ∈ p :: met
        · rw [if_pos hq, if_pos hq]
        · rw [if_neg hq, if_neg hq]
          have hpK := hK p (by rw [h]; simp)
          have hs := filter_shrinks K met p hpK hp
          have e := ih (p :: met) q hq (by omega) m (by omega)
          rw [e]
end Go.Proofs.Ytfmefdeldgmhpaa

namespace Go.Proofs.Ytfmefdeldgmhpaa
set_option linter.unusedSimpArgs false
set_option linter.unusedVariables false
open Go.RowKit
def entD (x : Ent) : List D := [.c (.int .i64 x.no), .c (.int .i64 x.kind), .c (.int .i64 x.a), .c (.int .i64 x.b), .c (.int .i64 x.frm), .c (.int .i64 x.til), .c (.int .i64 x.known), .c (.int .i64 x.gone)]
theorem entD_len (x : Ent) : (dV (entD x)).length = 8 := rfl
theorem entD_take (x : Ent) : (dV (entD x)).take 8 = dV (entD x) := rfl
theorem entD_ln (x : Ent) : (entD x).length = 8 := rfl
theorem entD_hd (x : Ent) : (dV (entD x)).head? = some (.d (.c (.int .i64 x.no))) := rfl
theorem entD_ic (x : Ent) : icells (dV (entD x)) = some [x.no, x.kind, x.a, x.b, x.frm, x.til, x.known, x.gone] := rfl
theorem entD_d1 (x : Ent) : (dV (entD x)).drop 1 = [.d (.c (.int .i64 x.kind)), .d (.c (.int .i64 x.a)), .d (.c (.int .i64 x.b)), .d (.c (.int .i64 x.frm)), .d (.c (.int .i64 x.til)), .d (.c (.int .i64 x.known)), .d (.c (.int .i64 x.gone))] := rfl
theorem entD_d2 (x : Ent) : (dV (entD x)).drop 2 = [.d (.c (.int .i64 x.a)), .d (.c (.int .i64 x.b)), .d (.c (.int .i64 x.frm)), .d (.c (.int .i64 x.til)), .d (.c (.int .i64 x.known)), .d (.c (.int .i64 x.gone))] := rfl
theorem entD_d3 (x : Ent) : (dV (entD x)).drop 3 = [.d (.c (.int .i64 x.b)), .d (.c (.int .i64 x.frm)), .d (.c (.int .i64 x.til)), .d (.c (.int .i64 x.known)), .d (.c (.int .i64 x.gone))] := rfl
theorem entD_d4 (x : Ent) : (dV (entD x)).drop 4 = [.d (.c (.int .i64 x.frm)), .d (.c (.int .i64 x.til)), .d (.c (.int .i64 x.known)), .d (.c (.int .i64 x.gone))] := rfl
theorem entD_d5 (x : Ent) : (dV (entD x)).drop 5 = [.d (.c (.int .i64 x.til)), .d (.c (.int .i64 x.known)), .d (.c (.int .i64 x.gone))] := rfl
theorem entD_d6 (x : Ent) : (dV (entD x)).drop 6 = [.d (.c (.int .i64 x.known)), .d (.c (.int .i64 x.gone))] := rfl
theorem entD_d7 (x : Ent) : (dV (entD x)).drop 7 = [.d (.c (.int .i64 x.gone))] := rfl
set_option maxRecDepth 100000
theorem gid_spec (n : Int) : Spec Try.prog 61 [aI n] (.r1 (aB (idB n))) := by
  refine spec_of T_ok Try.func61 (by dsimp only [Try.f61]) rfl rfl (by simp) fun w F => ?_
  refine aw_seq (aw_region T_ok (by kernel_rfl) ?_)
  simp only [↓rwp.eq_def, ↓sop.eq_def, ↓slotK.eq_def, inV, shT, unT, inQ, rfQ, rfEnd, resOf, pickT, setP, ydA, ydQ, rowW, vD, fillV,  ↓gop.eq_def, ↓hop.eq_def, ↓hopH.eq_def, ↓hwp.eq_def, ↓ldV.eq_def, ↓ldK.eq_def, ↓ixK.eq_def, ↓addOff.eq_def, ↓exK.eq_def, ↓notK.eq_def, ↓pickK.eq_def, ↓iop2.eq_def, ↓binK.eq_def, ↓eqop.eq_def, icells, ↓iop.eq_def, ↓cutK.eq_def, ↓lenK.eq_def, ↓lenM.eq_def, tyInt, ↓lookK.eq_def, ↓mpK.eq_def, keyV, allI, fitK, lkM, upM, dlM, kq, ↓cvK.eq_def, ↓mmK.eq_def, ↓biK.eq_def, ↓stK.eq_def, ↓apK.eq_def, ↓apD.eq_def, ↓apS.eq_def, nxt, put, setT, setB, delB, lkT_n, lkT_c, lkB_n, lkB_c, ev, ofC, inT, ofA, ofRet, dV_n, dV_c, getD_enc, toDs_dV, List.head?_cons, List.length_map, Option.toArray_some, Option.toArray_none, Int.toNat_natCast, slOf, TyK.agg, vcells, splice, pickOps, zOf, strip, stripP, gOf, allP, rowV, toDs, toD, toA, toAs, headOps, tailOps, isT, addN, Op.operands, Call.operands, List.map_cons, List.map_nil, List.drop_zero, List.drop_succ_cons, List.take_succ_cons, List.take_zero, List.length_cons, List.length_nil, List.getElem?_cons_zero, List.getElem?_cons_succ, List.getElem?_toArray, Option.bind_some, Option.map_some, Option.map_none, List.append_nil, List.nil_append, List.cons_append, if_true, if_false, reduceIte, Nat.reduceEqDiff, Nat.reduceAdd, Nat.reduceSub, Int.reduceToNat, Nat.reduceLeDiff, Nat.reduceLT, and_false, and_self, Nat.zero_add, Nat.add_zero, reduceCtorEq, Option.getD_some, Option.getD_none, Option.isSome_some, Option.isSome_none, forall_const, true_and, and_true, true_implies, Bool.true_and, Bool.false_and, Bool.and_true, Bool.and_false, Bool.true_or, Bool.false_or, Bool.or_true, Bool.or_false, beq_self_eq_true, zipM, zcells, Value.cells, Value.oneCell', List.toList_toArray, Array.toList_append, Bool.not_not, List.cons.injEq, Int.reduceEq, eq_self, false_and, Bool.not_true, Bool.not_false, ne_eq, not_false_eq_true, imp_self, implies_true, av_bt, av_bf, av_and, av_or, av_nf, av_tt, av_n1, av_n2, av_t1, av_tp, entD_len, entD_take, entD_hd, entD_ln, entD_ic, entD_d1, entD_d2, entD_d3, entD_d4, entD_d5, entD_d6, entD_d7, ty_39, ty_3]
  refine aw_seq (aw_region T_ok (by kernel_rfl) ?_)
  simp only [↓rwp.eq_def, ↓sop.eq_def, ↓slotK.eq_def, inV, shT, unT, inQ, rfQ, rfEnd, resOf, pickT, setP, ydA, ydQ, rowW, vD, fillV,  ↓gop.eq_def, ↓hop.eq_def, ↓hopH.eq_def, ↓hwp.eq_def, ↓ldV.eq_def, ↓ldK.eq_def, ↓ixK.eq_def, ↓addOff.eq_def, ↓exK.eq_def, ↓notK.eq_def, ↓pickK.eq_def, ↓iop2.eq_def, ↓binK.eq_def, ↓eqop.eq_def, icells, ↓iop.eq_def, ↓cutK.eq_def, ↓lenK.eq_def, ↓lenM.eq_def, tyInt, ↓lookK.eq_def, ↓mpK.eq_def, keyV, allI, fitK, lkM, upM, dlM, kq, ↓cvK.eq_def, ↓mmK.eq_def, ↓biK.eq_def, ↓stK.eq_def, ↓apK.eq_def, ↓apD.eq_def, ↓apS.eq_def, nxt, put, setT, setB, delB, lkT_n, lkT_c, lkB_n, lkB_c, ev, ofC, inT, ofA, ofRet, dV_n, dV_c, getD_enc, toDs_dV, List.head?_cons, List.length_map, Option.toArray_some, Option.toArray_none, Int.toNat_natCast, slOf, TyK.agg, vcells, splice, pickOps, zOf, strip, stripP, gOf, allP, rowV, toDs, toD, toA, toAs, headOps, tailOps, isT, addN, Op.operands, Call.operands, List.map_cons, List.map_nil, List.drop_zero, List.drop_succ_cons, List.take_succ_cons, List.take_zero, List.length_cons, List.length_nil, List.getElem?_cons_zero, List.getElem?_cons_succ, List.getElem?_toArray, Option.bind_some, Option.map_some, Option.map_none, List.append_nil, List.nil_append, List.cons_append, if_true, if_false, reduceIte, Nat.reduceEqDiff, Nat.reduceAdd, Nat.reduceSub, Int.reduceToNat, Nat.reduceLeDiff, Nat.reduceLT, and_false, and_self, Nat.zero_add, Nat.add_zero, reduceCtorEq, Option.getD_some, Option.getD_none, Option.isSome_some, Option.isSome_none, forall_const, true_and, and_true, true_implies, Bool.true_and, Bool.false_and, Bool.and_true, Bool.and_false, Bool.true_or, Bool.false_or, Bool.or_true, Bool.or_false, beq_self_eq_true, zipM, zcells, Value.cells, Value.oneCell', List.toList_toArray, Array.toList_append, Bool.not_not, List.cons.injEq, Int.reduceEq, eq_self, false_and, Bool.not_true, Bool.not_false, ne_eq, not_false_eq_true, imp_self, implies_true, av_bt, av_bf, av_and, av_or, av_nf, av_tt, av_n1, av_n2, av_t1, av_tp, entD_len, entD_take, entD_hd, entD_ln, entD_ic, entD_d1, entD_d2, entD_d3, entD_d4, entD_d5, entD_d6, entD_d7, ty_39, ty_3]
  refine aw_ret ?_
  simp only [↓rwp.eq_def, ↓sop.eq_def, ↓slotK.eq_def, inV, shT, unT, inQ, rfQ, rfEnd, resOf, pickT, setP, ydA, ydQ, rowW, vD, fillV,  ↓gop.eq_def, ↓hop.eq_def, ↓hopH.eq_def, ↓hwp.eq_def, ↓ldV.eq_def, ↓ldK.eq_def, ↓ixK.eq_def, ↓addOff.eq_def, ↓exK.eq_def, ↓notK.eq_def, ↓pickK.eq_def, ↓iop2.eq_def, ↓binK.eq_def, ↓eqop.eq_def, icells, ↓iop.eq_def, ↓cutK.eq_def, ↓lenK.eq_def, ↓lenM.eq_def, tyInt, ↓lookK.eq_def, ↓mpK.eq_def, keyV, allI, fitK, lkM, upM, dlM, kq, ↓cvK.eq_def, ↓mmK.eq_def, ↓biK.eq_def, ↓stK.eq_def, ↓apK.eq_def, ↓apD.eq_def, ↓apS.eq_def, nxt, put, setT, setB, delB, lkT_n, lkT_c, lkB_n, lkB_c, ev, ofC, inT, ofA, ofRet, dV_n, dV_c, getD_enc, toDs_dV, List.head?_cons, List.length_map, Option.toArray_some, Option.toArray_none, Int.toNat_natCast, slOf, TyK.agg, vcells, splice, pickOps, zOf, strip, stripP, gOf, allP, rowV, toDs, toD, toA, toAs, headOps, tailOps, isT, addN, Op.operands, Call.operands, List.map_cons, List.map_nil, List.drop_zero, List.drop_succ_cons, List.take_succ_cons, List.take_zero, List.length_cons, List.length_nil, List.getElem?_cons_zero, List.getElem?_cons_succ, List.getElem?_toArray, Option.bind_some, Option.map_some, Option.map_none, List.append_nil, List.nil_append, List.cons_append, if_true, if_false, reduceIte, Nat.reduceEqDiff, Nat.reduceAdd, Nat.reduceSub, Int.reduceToNat, Nat.reduceLeDiff, Nat.reduceLT, and_false, and_self, Nat.zero_add, Nat.add_zero, reduceCtorEq, Option.getD_some, Option.getD_none, Option.isSome_some, Option.isSome_none, forall_const, true_and, and_true, true_implies, Bool.true_and, Bool.false_and, Bool.and_true, Bool.and_false, Bool.true_or, Bool.false_or, Bool.or_true, Bool.or_false, beq_self_eq_true, zipM, zcells, Value.cells, Value.oneCell', List.toList_toArray, Array.toList_append, Bool.not_not, List.cons.injEq, Int.reduceEq, eq_self, false_and, Bool.not_true, Bool.not_false, ne_eq, not_false_eq_true, imp_self, implies_true, av_bt, av_bf, av_and, av_or, av_nf, av_tt, av_n1, av_n2, av_t1, av_tp, retQ, retL, resV, RetV, RetOk, SubL, entD_len, entD_take, entD_hd, entD_ln, entD_ic, entD_d1, entD_d2, entD_d3, entD_d4, entD_d5, entD_d6, entD_d7, ty_39, ty_3]
  exact Sub.of_eq (by simp [idB])
theorem eid_spec (n : Int) : Spec Try.prog 63 [aI n] (.r1 (aB (idB n))) := by
  refine spec_of T_ok Try.func63 (by dsimp only [Try.f63]) rfl rfl (by simp) fun w F => ?_
  refine aw_seq (aw_region T_ok (by kernel_rfl) ?_)
  simp only [↓rwp.eq_def, ↓sop.eq_def, ↓slotK.eq_def, inV, shT, unT, inQ, rfQ, rfEnd, resOf, pickT, setP, ydA, ydQ, rowW, vD, fillV,  ↓gop.eq_def, ↓hop.eq_def, ↓hopH.eq_def, ↓hwp.eq_def, ↓ldV.eq_def, ↓ldK.eq_def, ↓ixK.eq_def, ↓addOff.eq_def, ↓exK.eq_def, ↓notK.eq_def, ↓pickK.eq_def, ↓iop2.eq_def, ↓binK.eq_def, ↓eqop.eq_def, icells, ↓iop.eq_def, ↓cutK.eq_def, ↓lenK.eq_def, ↓lenM.eq_def, tyInt, ↓lookK.eq_def, ↓mpK.eq_def, keyV, allI, fitK, lkM, upM, dlM, kq, ↓cvK.eq_def, ↓mmK.eq_def, ↓biK.eq_def, ↓stK.eq_def, ↓apK.eq_def, ↓apD.eq_def, ↓apS.eq_def, nxt, put, setT, setB, delB, lkT_n, lkT_c, lkB_n, lkB_c, ev, ofC, inT, ofA, ofRet, dV_n, dV_c, getD_enc, toDs_dV, List.head?_cons, List.length_map, Option.toArray_some, Option.toArray_none, Int.toNat_natCast, slOf, TyK.agg, vcells, splice, pickOps, zOf, strip, stripP, gOf, allP, rowV, toDs, toD, toA, toAs, headOps, tailOps, isT, addN, Op.operands, Call.operands, List.map_cons, List.map_nil, List.drop_zero, List.drop_succ_cons, List.take_succ_cons, List.take_zero, List.length_cons, List.length_nil, List.getElem?_cons_zero, List.getElem?_cons_succ, List.getElem?_toArray, Option.bind_some, Option.map_some, Option.map_none, List.append_nil, List.nil_append, List.cons_append, if_true, if_false, reduceIte, Nat.reduceEqDiff, Nat.reduceAdd, Nat.reduceSub, Int.reduceToNat, Nat.reduceLeDiff, Nat.reduceLT, and_false, and_self, Nat.zero_add, Nat.add_zero, reduceCtorEq, Option.getD_some, Option.getD_none, Option.isSome_some, Option.isSome_none, forall_const, true_and, and_true, true_implies, Bool.true_and, Bool.false_and, Bool.and_true, Bool.and_false, Bool.true_or, Bool.false_or, Bool.or_true, Bool.or_false, beq_self_eq_true, zipM, zcells, Value.cells, Value.oneCell', List.toList_toArray, Array.toList_append, Bool.not_not, List.cons.injEq, Int.reduceEq, eq_self, false_and, Bool.not_true, Bool.not_false, ne_eq, not_false_eq_true, imp_self, implies_true, av_bt, av_bf, av_and, av_or, av_nf, av_tt, av_n1, av_n2, av_t1, av_tp, entD_len, entD_take, entD_hd, entD_ln, entD_ic, entD_d1, entD_d2, entD_d3, entD_d4, entD_d5, entD_d6, entD_d7, ty_39, ty_3]
  refine aw_seq (aw_region T_ok (by kernel_rfl) ?_)
  simp only [↓rwp.eq_def, ↓sop.eq_def, ↓slotK.eq_def, inV, shT, unT, inQ, rfQ, rfEnd, resOf, pickT, setP, ydA, ydQ, rowW, vD, fillV,  ↓gop.eq_def, ↓hop.eq_def, ↓hopH.eq_def, ↓hwp.eq_def, ↓ldV.eq_def, ↓ldK.eq_def, ↓ixK.eq_def, ↓addOff.eq_def, ↓exK.eq_def, ↓notK.eq_def, ↓pickK.eq_def, ↓iop2.eq_def, ↓binK.eq_def, ↓eqop.eq_def, icells, ↓iop.eq_def, ↓cutK.eq_def, ↓lenK.eq_def, ↓lenM.eq_def, tyInt, ↓lookK.eq_def, ↓mpK.eq_def, keyV, allI, fitK, lkM, upM, dlM, kq, ↓cvK.eq_def, ↓mmK.eq_def, ↓biK.eq_def, ↓stK.eq_def, ↓apK.eq_def, ↓apD.eq_def, ↓apS.eq_def, nxt, put, setT, setB, delB, lkT_n, lkT_c, lkB_n, lkB_c, ev, ofC, inT, ofA, ofRet, dV_n, dV_c, getD_enc, toDs_dV, List.head?_cons, List.length_map, Option.toArray_some, Option.toArray_none, Int.toNat_natCast, slOf, TyK.agg, vcells, splice, pickOps, zOf, strip, stripP, gOf, allP, rowV, toDs, toD, toA, toAs, headOps, tailOps, isT, addN, Op.operands, Call.operands, List.map_cons, List.map_nil, List.drop_zero, List.drop_succ_cons, List.take_succ_cons, List.take_zero, List.length_cons, List.length_nil, List.getElem?_cons_zero, List.getElem?_cons_succ, List.getElem?_toArray, Option.bind_some, Option.map_some, Option.map_none, List.append_nil, List.nil_append, List.cons_append, if_true, if_false, reduceIte, Nat.reduceEqDiff, Nat.reduceAdd, Nat.reduceSub, Int.reduceToNat, Nat.reduceLeDiff, Nat.reduceLT, and_false, and_self, Nat.zero_add, Nat.add_zero, reduceCtorEq, Option.getD_some, Option.getD_none, Option.isSome_some, Option.isSome_none, forall_const, true_and, and_true, true_implies, Bool.true_and, Bool.false_and, Bool.and_true, Bool.and_false, Bool.true_or, Bool.false_or, Bool.or_true, Bool.or_false, beq_self_eq_true, zipM, zcells, Value.cells, Value.oneCell', List.toList_toArray, Array.toList_append, Bool.not_not, List.cons.injEq, Int.reduceEq, eq_self, false_and, Bool.not_true, Bool.not_false, ne_eq, not_false_eq_true, imp_self, implies_true, av_bt, av_bf, av_and, av_or, av_nf, av_tt, av_n1, av_n2, av_t1, av_tp, entD_len, entD_take, entD_hd, entD_ln, entD_ic, entD_d1, entD_d2, entD_d3, entD_d4, entD_d5, entD_d6, entD_d7, ty_39, ty_3]
  refine aw_ret ?_
  simp only [↓rwp.eq_def, ↓sop.eq_def, ↓slotK.eq_def, inV, shT, unT, inQ, rfQ, rfEnd, resOf, pickT, setP, ydA, ydQ, rowW, vD, fillV,  ↓gop.eq_def, ↓hop.eq_def, ↓hopH.eq_def, ↓hwp.eq_def, ↓ldV.eq_def, ↓ldK.eq_def, ↓ixK.eq_def, ↓addOff.eq_def, ↓exK.eq_def, ↓notK.eq_def, ↓pickK.eq_def, ↓iop2.eq_def, ↓binK.eq_def, ↓eqop.eq_def, icells, ↓iop.eq_def, ↓cutK.eq_def, ↓lenK.eq_def, ↓lenM.eq_def, tyInt, ↓lookK.eq_def, ↓mpK.eq_def, keyV, allI, fitK, lkM, upM, dlM, kq, ↓cvK.eq_def, ↓mmK.eq_def, ↓biK.eq_def, ↓stK.eq_def, ↓apK.eq_def, ↓apD.eq_def, ↓apS.eq_def, nxt, put, setT, setB, delB, lkT_n, lkT_c, lkB_n, lkB_c, ev, ofC, inT, ofA, ofRet, dV_n, dV_c, getD_enc, toDs_dV, List.head?_cons, List.length_map, Option.toArray_some, Option.toArray_none, Int.toNat_natCast, slOf, TyK.agg, vcells, splice, pickOps, zOf, strip, stripP, gOf, allP, rowV, toDs, toD, toA, toAs, headOps, tailOps, isT, addN, Op.operands, Call.operands, List.map_cons, List.map_nil, List.drop_zero, List.drop_succ_cons, List.take_succ_cons, List.take_zero, List.length_cons, List.length_nil, List.getElem?_cons_zero, List.getElem?_cons_succ, List.getElem?_toArray, Option.bind_some, Option.map_some, Option.map_none, List.append_nil, List.nil_append, List.cons_append, if_true, if_false, reduceIte, Nat.reduceEqDiff, Nat.reduceAdd, Nat.reduceSub, Int.reduceToNat, Nat.reduceLeDiff, Nat.reduceLT, and_false, and_self, Nat.zero_add, Nat.add_zero, reduceCtorEq, Option.getD_some, Option.getD_none, Option.isSome_some, Option.isSome_none, forall_const, true_and, and_true, true_implies, Bool.true_and, Bool.false_and, Bool.and_true, Bool.and_false, Bool.true_or, Bool.false_or, Bool.or_true, Bool.or_false, beq_self_eq_true, zipM, zcells, Value.cells, Value.oneCell', List.toList_toArray, Array.toList_append, Bool.not_not, List.cons.injEq, Int.reduceEq, eq_self, false_and, Bool.not_true, Bool.not_false, ne_eq, not_false_eq_true, imp_self, implies_true, av_bt, av_bf, av_and, av_or, av_nf, av_tt, av_n1, av_n2, av_t1, av_tp, retQ, retL, resV, RetV, RetOk, SubL, entD_len, entD_take, entD_hd, entD_ln, entD_ic, entD_d1, entD_d2, entD_d3, entD_d4, entD_d5, entD_d6, entD_d7, ty_39, ty_3]
  exact Sub.of_eq (by simp [idB])
theorem gspan_spec (x y : Int) : Spec Try.prog 62 [aI x, aI y] (.r1 (aB (spanB x y))) := by
  refine spec_of T_ok Try.func62 (by dsimp only [Try.f62]) rfl rfl (by simp) fun w F => ?_
  refine aw_seq (aw_region T_ok (by kernel_rfl) ?_)
  simp only [↓rwp.eq_def, ↓sop.eq_def, ↓slotK.eq_def, inV, shT, unT, inQ, rfQ, rfEnd, resOf, pickT, setP, ydA, ydQ, rowW, vD, fillV,  ↓gop.eq_def, ↓hop.eq_def, ↓hopH.eq_def, ↓hwp.eq_def, ↓ldV.eq_def, ↓ldK.eq_def, ↓ixK.eq_def, ↓addOff.eq_def, ↓exK.eq_def, ↓notK.eq_def, ↓pickK.eq_def, ↓iop2.eq_def, ↓binK.eq_def, ↓eqop.eq_def, icells, ↓iop.eq_def, ↓cutK.eq_def, ↓lenK.eq_def, ↓lenM.eq_def, tyInt, ↓lookK.eq_def, ↓mpK.eq_def, keyV, allI, fitK, lkM, upM, dlM, kq, ↓cvK.eq_def, ↓mmK.eq_def, ↓biK.eq_def, ↓stK.eq_def, ↓apK.eq_def, ↓apD.eq_def, ↓apS.eq_def, nxt, put, setT, setB, delB, lkT_n, lkT_c, lkB_n, lkB_c, ev, ofC, inT, ofA, ofRet, dV_n, dV_c, getD_enc, toDs_dV, List.head?_cons, List.length_map, Option.toArray_some, Option.toArray_none, Int.toNat_natCast, slOf, TyK.agg, vcells, splice, pickOps, zOf, strip, stripP, gOf, allP, rowV, toDs, toD, toA, toAs, headOps, tailOps, isT, addN, Op.operands, Call.operands, List.map_cons, List.map_nil, List.drop_zero, List.drop_succ_cons, List.take_succ_cons, List.take_zero, List.length_cons, List.length_nil, List.getElem?_cons_zero, List.getElem?_cons_succ, List.getElem?_toArray, Option.bind_some, Option.map_some, Option.map_none, List.append_nil, List.nil_append, List.cons_append, if_true, if_false, reduceIte, Nat.reduceEqDiff, Nat.reduceAdd, Nat.reduceSub, Int.reduceToNat, Nat.reduceLeDiff, Nat.reduceLT, and_false, and_self, Nat.zero_add, Nat.add_zero, reduceCtorEq, Option.getD_some, Option.getD_none, Option.isSome_some, Option.isSome_none, forall_const, true_and, and_true, true_implies, Bool.true_and, Bool.false_and, Bool.and_true, Bool.and_false, Bool.true_or, Bool.false_or, Bool.or_true, Bool.or_false, beq_self_eq_true, zipM, zcells, Value.cells, Value.oneCell', List.toList_toArray, Array.toList_append, Bool.not_not, List.cons.injEq, Int.reduceEq, eq_self, false_and, Bool.not_true, Bool.not_false, ne_eq, not_false_eq_true, imp_self, implies_true, av_bt, av_bf, av_and, av_or, av_nf, av_tt, av_n1, av_n2, av_t1, av_tp, entD_len, entD_take, entD_hd, entD_ln, entD_ic, entD_d1, entD_d2, entD_d3, entD_d4, entD_d5, entD_d6, entD_d7, ty_39, ty_3]
  refine aw_seq (aw_region T_ok (by kernel_rfl) ?_)
  simp only [↓rwp.eq_def, ↓sop.eq_def, ↓slotK.eq_def, inV, shT, unT, inQ, rfQ, rfEnd, resOf, pickT, setP, ydA, ydQ, rowW, vD, fillV,  ↓gop.eq_def, ↓hop.eq_def, ↓hopH.eq_def, ↓hwp.eq_def, ↓ldV.eq_def, ↓ldK.eq_def, ↓ixK.eq_def, ↓addOff.eq_def, ↓exK.eq_def, ↓notK.eq_def, ↓pickK.eq_def, ↓iop2.eq_def, ↓binK.eq_def, ↓eqop.eq_def, icells, ↓iop.eq_def, ↓cutK.eq_def, ↓lenK.eq_def, ↓lenM.eq_def, tyInt, ↓lookK.eq_def, ↓mpK.eq_def, keyV, allI, fitK, lkM, upM, dlM, kq, ↓cvK.eq_def, ↓mmK.eq_def, ↓biK.eq_def, ↓stK.eq_def, ↓apK.eq_def, ↓apD.eq_def, ↓apS.eq_def, nxt, put, setT, setB, delB, lkT_n, lkT_c, lkB_n, lkB_c, ev, ofC, inT, ofA, ofRet, dV_n, dV_c, getD_enc, toDs_dV, List.head?_cons, List.length_map, Option.toArray_some, Option.toArray_none, Int.toNat_natCast, slOf, TyK.agg, vcells, splice, pickOps, zOf, strip, stripP, gOf, allP, rowV, toDs, toD, toA, toAs, headOps, tailOps, isT, addN, Op.operands, Call.operands, List.map_cons, List.map_nil, List.drop_zero, List.drop_succ_cons, List.take_succ_cons, List.take_zero, List.length_cons, List.length_nil, List.getElem?_cons_zero, List.getElem?_cons_succ, List.getElem?_toArray, Option.bind_some, Option.map_some, Option.map_none, List.append_nil, List.nil_append, List.cons_append, if_true, if_false, reduceIte, Nat.reduceEqDiff, Nat.reduceAdd, Nat.reduceSub, Int.reduceToNat, Nat.reduceLeDiff, Nat.reduceLT, and_false, and_self, Nat.zero_add, Nat.add_zero, reduceCtorEq, Option.getD_some, Option.getD_none, Option.isSome_some, Option.isSome_none, forall_const, true_and, and_true, true_implies, Bool.true_and, Bool.false_and, Bool.and_true, Bool.and_false, Bool.true_or, Bool.false_or, Bool.or_true, Bool.or_false, beq_self_eq_true, zipM, zcells, Value.cells, Value.oneCell', List.toList_toArray, Array.toList_append, Bool.not_not, List.cons.injEq, Int.reduceEq, eq_self, false_and, Bool.not_true, Bool.not_false, ne_eq, not_false_eq_true, imp_self, implies_true, av_bt, av_bf, av_and, av_or, av_nf, av_tt, av_n1, av_n2, av_t1, av_tp, entD_len, entD_take, entD_hd, entD_ln, entD_ic, entD_d1, entD_d2, entD_d3, entD_d4, entD_d5, entD_d6, entD_d7, ty_39, ty_3]
  refine aw_ret ?_
  simp only [↓rwp.eq_def, ↓sop.eq_def, ↓slotK.eq_def, inV, shT, unT, inQ, rfQ, rfEnd, resOf, pickT, setP, ydA, ydQ, rowW, vD, fillV,  ↓gop.eq_def, ↓hop.eq_def, ↓hopH.eq_def, ↓hwp.eq_def, ↓ldV.eq_def, ↓ldK.eq_def, ↓ixK.eq_def, ↓addOff.eq_def, ↓exK.eq_def, ↓notK.eq_def, ↓pickK.eq_def, ↓iop2.eq_def, ↓binK.eq_def, ↓eqop.eq_def, icells, ↓iop.eq_def, ↓cutK.eq_def, ↓lenK.eq_def, ↓lenM.eq_def, tyInt, ↓lookK.eq_def, ↓mpK.eq_def, keyV, allI, fitK, lkM, upM, dlM, kq, ↓cvK.eq_def, ↓mmK.eq_def, ↓biK.eq_def, ↓stK.eq_def, ↓apK.eq_def, ↓apD.eq_def, ↓apS.eq_def, nxt, put, setT, setB, delB, lkT_n, lkT_c, lkB_n, lkB_c, ev, ofC, inT, ofA, ofRet, dV_n, dV_c, getD_enc, toDs_dV, List.head?_cons, List.length_map, Option.toArray_some, Option.toArray_none, Int.toNat_natCast, slOf, TyK.agg, vcells, splice, pickOps, zOf, strip, stripP, gOf, allP, rowV, toDs, toD, toA, toAs, headOps, tailOps, isT, addN, Op.operands, Call.operands, List.map_cons, List.map_nil, List.drop_zero, List.drop_succ_cons, List.take_succ_cons, List.take_zero, List.length_cons, List.length_nil, List.getElem?_cons_zero, List.getElem?_cons_succ, List.getElem?_toArray, Option.bind_some, Option.map_some, Option.map_none, List.append_nil, List.nil_append, List.cons_append, if_true, if_false, reduceIte, Nat.reduceEqDiff, Nat.reduceAdd, Nat.reduceSub, Int.reduceToNat, Nat.reduceLeDiff, Nat.reduceLT, and_false, and_self, Nat.zero_add, Nat.add_zero, reduceCtorEq, Option.getD_some, Option.getD_none, Option.isSome_some, Option.isSome_none, forall_const, true_and, and_true, true_implies, Bool.true_and, Bool.false_and, Bool.and_true, Bool.and_false, Bool.true_or, Bool.false_or, Bool.or_true, Bool.or_false, beq_self_eq_true, zipM, zcells, Value.cells, Value.oneCell', List.toList_toArray, Array.toList_append, Bool.not_not, List.cons.injEq, Int.reduceEq, eq_self, false_and, Bool.not_true, Bool.not_false, ne_eq, not_false_eq_true, imp_self, implies_true, av_bt, av_bf, av_and, av_or, av_nf, av_tt, av_n1, av_n2, av_t1, av_tp, retQ, retL, resV, RetV, RetOk, SubL, entD_len, entD_take, entD_hd, entD_ln, entD_ic, entD_d1, entD_d2, entD_d3, entD_d4, entD_d5, entD_d6, entD_d7, ty_39, ty_3]
  exact Sub.of_eq (by simp [spanB])
theorem espan_spec (x y : Int) : Spec Try.prog 64 [aI x, aI y] (.r1 (aB (spanB x y))) := by
  refine spec_of T_ok Try.func64 (by dsimp only [Try.f64]) rfl rfl (by simp) fun w F => ?_
  refine aw_seq (aw_region T_ok (by kernel_rfl) ?_)
  simp only [↓rwp.eq_def, ↓sop.eq_def, ↓slotK.eq_def, inV, shT, unT, inQ, rfQ, rfEnd, resOf, pickT, setP, ydA, ydQ, rowW, vD, fillV,  ↓gop.eq_def, ↓hop.eq_def, ↓hopH.eq_def, ↓hwp.eq_def, ↓ldV.eq_def, ↓ldK.eq_def, ↓ixK.eq_def, ↓addOff.eq_def, ↓exK.eq_def, ↓notK.eq_def, ↓pickK.eq_def, ↓iop2.eq_def, ↓binK.eq_def, ↓eqop.eq_def, icells, ↓iop.eq_def, ↓cutK.eq_def, ↓lenK.eq_def, ↓lenM.eq_def, tyInt, ↓lookK.eq_def, ↓mpK.eq_def, keyV, allI, fitK, lkM, upM, dlM, kq, ↓cvK.eq_def, ↓mmK.eq_def, ↓biK.eq_def, ↓stK.eq_def, ↓apK.eq_def, ↓apD.eq_def, ↓apS.eq_def, nxt, put, setT, setB, delB, lkT_n, lkT_c, lkB_n, lkB_c, ev, ofC, inT, ofA, ofRet, dV_n, dV_c, getD_enc, toDs_dV, List.head?_cons, List.length_map, Option.toArray_some, Option.toArray_none, Int.toNat_natCast, slOf, TyK.agg, vcells, splice, pickOps, zOf, strip, stripP, gOf, allP, rowV, toDs, toD, toA, toAs, headOps, tailOps, isT, addN, Op.operands, Call.operands, List.map_cons, List.map_nil, List.drop_zero, List.drop_succ_cons, List.take_succ_cons, List.take_zero, List.length_cons, List.length_nil, List.getElem?_cons_zero, List.getElem?_cons_succ, List.getElem?_toArray, Option.bind_some, Option.map_some, Option.map_none, List.append_nil, List.nil_append, List.cons_append, if_true, if_false, reduceIte, Nat.reduceEqDiff, Nat.reduceAdd, Nat.reduceSub, Int.reduceToNat, Nat.reduceLeDiff, Nat.reduceLT, and_false, and_self, Nat.zero_add, Nat.add_zero, reduceCtorEq, Option.getD_some, Option.getD_none, Option.isSome_some, Option.isSome_none, forall_const, true_and, and_true, true_implies, Bool.true_and, Bool.false_and, Bool.and_true, Bool.and_false, Bool.true_or, Bool.false_or, Bool.or_true, Bool.or_false, beq_self_eq_true, zipM, zcells, Value.cells, Value.oneCell', List.toList_toArray, Array.toList_append, Bool.not_not, List.cons.injEq, Int.reduceEq, eq_self, false_and, Bool.not_true, Bool.not_false, ne_eq, not_false_eq_true, imp_self, implies_true, av_bt, av_bf, av_and, av_or, av_nf, av_tt, av_n1, av_n2, av_t1, av_tp, entD_len, entD_take, entD_hd, entD_ln, entD_ic, entD_d1, entD_d2, entD_d3, entD_d4, entD_d5, entD_d6, entD_d7, ty_39, ty_3]
  refine aw_seq (aw_region T_ok (by kernel_rfl) ?_)
  simp only [↓rwp.eq_def, ↓sop.eq_def, ↓slotK.eq_def, inV, shT, unT, inQ, rfQ, rfEnd, resOf, pickT, setP, ydA, ydQ, rowW, vD, fillV,  ↓gop.eq_def, ↓hop.eq_def, ↓hopH.eq_def, ↓hwp.eq_def, ↓ldV.eq_def, ↓ldK.eq_def, ↓ixK.eq_def, ↓addOff.eq_def, ↓exK.eq_def, ↓notK.eq_def, ↓pickK.eq_def, ↓iop2.eq_def, ↓binK.eq_def, ↓eqop.eq_def, icells, ↓iop.eq_def, ↓cutK.eq_def, ↓lenK.eq_def, ↓lenM.eq_def, tyInt, ↓lookK.eq_def, ↓mpK.eq_def, keyV, allI, fitK, lkM, upM, dlM, kq, ↓cvK.eq_def, ↓mmK.eq_def, ↓biK.eq_def, ↓stK.eq_def, ↓apK.eq_def, ↓apD.eq_def, ↓apS.eq_def, nxt, put, setT, setB, delB, lkT_n, lkT_c, lkB_n, lkB_c, ev, ofC, inT, ofA, ofRet, dV_n, dV_c, getD_enc, toDs_dV, List.head?_cons, List.length_map, Option.toArray_some, Option.toArray_none, Int.toNat_natCast, slOf, TyK.agg, vcells, splice, pickOps, zOf, strip, stripP, gOf, allP, rowV, toDs, toD, toA, toAs, headOps, tailOps, isT, addN, Op.operands, Call.operands, List.map_cons, List.map_nil, List.drop_zero, List.drop_succ_cons, List.take_succ_cons, List.take_zero, List.length_cons, List.length_nil, List.getElem?_cons_zero, List.getElem?_cons_succ, List.getElem?_toArray, Option.bind_some, Option.map_some, Option.map_none, List.append_nil, List.nil_append, List.cons_append, if_true, if_false, reduceIte, Nat.reduceEqDiff, Nat.reduceAdd, Nat.reduceSub, Int.reduceToNat, Nat.reduceLeDiff, Nat.reduceLT, and_false, and_self, Nat.zero_add, Nat.add_zero, reduceCtorEq, Option.getD_some, Option.getD_none, Option.isSome_some, Option.isSome_none, forall_const, true_and, and_true, true_implies, Bool.true_and, Bool.false_and, Bool.and_true, Bool.and_false, Bool.true_or, Bool.false_or, Bool.or_true, Bool.or_false, beq_self_eq_true, zipM, zcells, Value.cells, Value.oneCell', List.toList_toArray, Array.toList_append, Bool.not_not, List.cons.injEq, Int.reduceEq, eq_self, false_and, Bool.not_true, Bool.not_false, ne_eq, not_false_eq_true, imp_self, implies_true, av_bt, av_bf, av_and, av_or, av_nf, av_tt, av_n1, av_n2, av_t1, av_tp, entD_len, entD_take, entD_hd, entD_ln, entD_ic, entD_d1, entD_d2, entD_d3, entD_d4, entD_d5, entD_d6, entD_d7, ty_39, ty_3]
  refine aw_ret ?_
  simp only [↓rwp.eq_def, ↓sop.eq_def, ↓slotK.eq_def, inV, shT, unT, inQ, rfQ, rfEnd, resOf, pickT, setP, ydA, ydQ, rowW, vD, fillV,  ↓gop.eq_def, ↓hop.eq_def, ↓hopH.eq_def, ↓hwp.eq_def, ↓ldV.eq_def, ↓ldK.eq_def, ↓ixK.eq_def, ↓addOff.eq_def, ↓exK.eq_def, ↓notK.eq_def, ↓pickK.eq_def, ↓iop2.eq_def, ↓binK.eq_def, ↓eqop.eq_def, icells, ↓iop.eq_def, ↓cutK.eq_def, ↓lenK.eq_def, ↓lenM.eq_def, tyInt, ↓lookK.eq_def, ↓mpK.eq_def, keyV, allI, fitK, lkM, upM, dlM, kq, ↓cvK.eq_def, ↓mmK.eq_def, ↓biK.eq_def, ↓stK.eq_def, ↓apK.eq_def, ↓apD.eq_def, ↓apS.eq_def, nxt, put, setT, setB, delB, lkT_n, lkT_c, lkB_n, lkB_c, ev, ofC, inT, ofA, ofRet, dV_n, dV_c, getD_enc, toDs_dV, List.head?_cons, List.length_map, Option.toArray_some, Option.toArray_none, Int.toNat_natCast, slOf, TyK.agg, vcells, splice, pickOps, zOf, strip, stripP, gOf, allP, rowV, toDs, toD, toA, toAs, headOps, tailOps, isT, addN, Op.operands, Call.operands, List.map_cons, List.map_nil, List.drop_zero, List.drop_succ_cons, List.take_succ_cons, List.take_zero, List.length_cons, List.length_nil, List.getElem?_cons_zero, List.getElem?_cons_succ, List.getElem?_toArray, Option.bind_some, Option.map_some, Option.map_none, List.append_nil, List.nil_append, List.cons_append, if_true, if_false, reduceIte, Nat.reduceEqDiff, Nat.reduceAdd, Nat.reduceSub, Int.reduceToNat, Nat.reduceLeDiff, Nat.reduceLT, and_false, and_self, Nat.zero_add, Nat.add_zero, reduceCtorEq, Option.getD_some, Option.getD_none, Option.isSome_some, Option.isSome_none, forall_const, true_and, and_true, true_implies, Bool.true_and, Bool.false_and, Bool.and_true, Bool.and_false, Bool.true_or, Bool.false_or, Bool.or_true, Bool.or_false, beq_self_eq_true, zipM, zcells, Value.cells, Value.oneCell', List.toList_toArray, Array.toList_append, Bool.not_not, List.cons.injEq, Int.reduceEq, eq_self, false_and, Bool.not_true, Bool.not_false, ne_eq, not_false_eq_true, imp_self, implies_true, av_bt, av_bf, av_and, av_or, av_nf, av_tt, av_n1, av_n2, av_t1, av_tp, retQ, retL, resV, RetV, RetOk, SubL, entD_len, entD_take, entD_hd, entD_ln, entD_ic, entD_d1, entD_d2, entD_d3, entD_d4, entD_d5, entD_d6, entD_d7, ty_39, ty_3]
  exact Sub.of_eq (by simp [spanB])
theorem ecounts_spec (x : Ent) (day time : Int) : Spec Try.prog 33 [.agg (entD x), aI day, aI time] (.r1 (aB (countsB day time x))) := by
  refine spec_of T_ok Try.func33 (by dsimp only [Try.f33]) rfl rfl (by simp) fun w F => ?_
  refine aw_seq (aw_region T_ok (by kernel_rfl) ?_)
  simp only [↓rwp.eq_def, ↓sop.eq_def, ↓slotK.eq_def, inV, shT, unT, inQ, rfQ, rfEnd, resOf, pickT, setP, ydA, ydQ, rowW, vD, fillV,  ↓gop.eq_def, ↓hop.eq_def, ↓hopH.eq_def, ↓hwp.eq_def, ↓ldV.eq_def, ↓ldK.eq_def, ↓ixK.eq_def, ↓addOff.eq_def, ↓exK.eq_def, ↓notK.eq_def, ↓pickK.eq_def, ↓iop2.eq_def, ↓binK.eq_def, ↓eqop.eq_def, icells, ↓iop.eq_def, ↓cutK.eq_def, ↓lenK.eq_def, ↓lenM.eq_def, tyInt, ↓lookK.eq_def, ↓mpK.eq_def, keyV, allI, fitK, lkM, upM, dlM, kq, ↓cvK.eq_def, ↓mmK.eq_def, ↓biK.eq_def, ↓stK.eq_def, ↓apK.eq_def, ↓apD.eq_def, ↓apS.eq_def, nxt, put, setT, setB, delB, lkT_n, lkT_c, lkB_n, lkB_c, ev, ofC, inT, ofA, ofRet, dV_n, dV_c, getD_enc, toDs_dV, List.head?_cons, List.length_map, Option.toArray_some, Option.toArray_none, Int.toNat_natCast, slOf, TyK.agg, vcells, splice, pickOps, zOf, strip, stripP, gOf, allP, rowV, toDs, toD, toA, toAs, headOps, tailOps, isT, addN, Op.operands, Call.operands, List.map_cons, List.map_nil, List.drop_zero, List.drop_succ_cons, List.take_succ_cons, List.take_zero, List.length_cons, List.length_nil, List.getElem?_cons_zero, List.getElem?_cons_succ, List.getElem?_toArray, Option.bind_some, Option.map_some, Option.map_none, List.append_nil, List.nil_append, List.cons_append, if_true, if_false, reduceIte, Nat.reduceEqDiff, Nat.reduceAdd, Nat.reduceSub, Int.reduceToNat, Nat.reduceLeDiff, Nat.reduceLT, and_false, and_self, Nat.zero_add, Nat.add_zero, reduceCtorEq, Option.getD_some, Option.getD_none, Option.isSome_some, Option.isSome_none, forall_const, true_and, and_true, true_implies, Bool.true_and, Bool.false_and, Bool.and_true, Bool.and_false, Bool.true_or, Bool.false_or, Bool.or_true, Bool.or_false, beq_self_eq_true, zipM, zcells, Value.cells, Value.oneCell', List.toList_toArray, Array.toList_append, Bool.not_not, List.cons.injEq, Int.reduceEq, eq_self, false_and, Bool.not_true, Bool.not_false, ne_eq, not_false_eq_true, imp_self, implies_true, av_bt, av_bf, av_and, av_or, av_nf, av_tt, av_n1, av_n2, av_t1, av_tp, entD_len, entD_take, entD_hd, entD_ln, entD_ic, entD_d1, entD_d2, entD_d3, entD_d4, entD_d5, entD_d6, entD_d7, ty_39, ty_3]
  refine aw_seq (aw_region T_ok (by kernel_rfl) ?_)
  simp only [↓rwp.eq_def, ↓sop.eq_def, ↓slotK.eq_def, inV, shT, unT, inQ, rfQ, rfEnd, resOf, pickT, setP, ydA, ydQ, rowW, vD, fillV,  ↓gop.eq_def, ↓hop.eq_def, ↓hopH.eq_def, ↓hwp.eq_def, ↓ldV.eq_def, ↓ldK.eq_def, ↓ixK.eq_def, ↓addOff.eq_def, ↓exK.eq_def, ↓notK.eq_def, ↓pickK.eq_def, ↓iop2.eq_def, ↓binK.eq_def, ↓eqop.eq_def, icells, ↓iop.eq_def, ↓cutK.eq_def, ↓lenK.eq_def, ↓lenM.eq_def, tyInt, ↓lookK.eq_def, ↓mpK.eq_def, keyV, allI, fitK, lkM, upM, dlM, kq, ↓cvK.eq_def, ↓mmK.eq_def, ↓biK.eq_def, ↓stK.eq_def, ↓apK.eq_def, ↓apD.eq_def, ↓apS.eq_def, nxt, put, setT, setB, delB, lkT_n, lkT_c, lkB_n, lkB_c, ev, ofC, inT, ofA, ofRet, dV_n, dV_c, getD_enc, toDs_dV, List.head?_cons, List.length_map, Option.toArray_some, Option.toArray_none, Int.toNat_natCast, slOf, TyK.agg, vcells, splice, pickOps, zOf, strip, stripP, gOf, allP, rowV, toDs, toD, toA, toAs, headOps, tailOps, isT, addN, Op.operands, Call.operands, List.map_cons, List.map_nil, List.drop_zero, List.drop_succ_cons, List.take_succ_cons, List.take_zero, List.length_cons, List.length_nil, List.getElem?_cons_zero, List.getElem?_cons_succ, List.getElem?_toArray, Option.bind_some, Option.map_some, Option.map_none, List.append_nil, List.nil_append, List.cons_append, if_true, if_false, reduceIte, Nat.reduceEqDiff, Nat.reduceAdd, Nat.reduceSub, Int.reduceToNat, Nat.reduceLeDiff, Nat.reduceLT, and_false, and_self, Nat.zero_add, Nat.add_zero, reduceCtorEq, Option.getD_some, Option.getD_none, Option.isSome_some, Option.isSome_none, forall_const, true_and, and_true, true_implies, Bool.true_and, Bool.false_and, Bool.and_true, Bool.and_false, Bool.true_or, Bool.false_or, Bool.or_true, Bool.or_false, beq_self_eq_true, zipM, zcells, Value.cells, Value.oneCell', List.toList_toArray, Array.toList_append, Bool.not_not, List.cons.injEq, Int.reduceEq, eq_self, false_and, Bool.not_true, Bool.not_false, ne_eq, not_false_eq_true, imp_self, implies_true, av_bt, av_bf, av_and, av_or, av_nf, av_tt, av_n1, av_n2, av_t1, av_tp, entD_len, entD_take, entD_hd, entD_ln, entD_ic, entD_d1, entD_d2, entD_d3, entD_d4, entD_d5, entD_d6, entD_d7, ty_39, ty_3]
  refine aw_ret ?_
  simp only [↓rwp.eq_def, ↓sop.eq_def, ↓slotK.eq_def, inV, shT, unT, inQ, rfQ, rfEnd, resOf, pickT, setP, ydA, ydQ, rowW, vD, fillV,  ↓gop.eq_def, ↓hop.eq_def, ↓hopH.eq_def, ↓hwp.eq_def, ↓ldV.eq_def, ↓ldK.eq_def, ↓ixK.eq_def, ↓addOff.eq_def, ↓exK.eq_def, ↓notK.eq_def, ↓pickK.eq_def, ↓iop2.eq_def, ↓binK.eq_def, ↓eqop.eq_def, icells, ↓iop.eq_def, ↓cutK.eq_def, ↓lenK.eq_def, ↓lenM.eq_def, tyInt, ↓lookK.eq_def, ↓mpK.eq_def, keyV, allI, fitK, lkM, upM, dlM, kq, ↓cvK.eq_def, ↓mmK.eq_def, ↓biK.eq_def, ↓stK.eq_def, ↓apK.eq_def, ↓apD.eq_def, ↓apS.eq_def, nxt, put, setT, setB, delB, lkT_n, lkT_c, lkB_n, lkB_c, ev, ofC, inT, ofA, ofRet, dV_n, dV_c, getD_enc, toDs_dV, List.head?_cons, List.length_map, Option.toArray_some, Option.toArray_none, Int.toNat_natCast, slOf, TyK.agg, vcells, splice, pickOps, zOf, strip, stripP, gOf, allP, rowV, toDs, toD, toA, toAs, headOps, tailOps, isT, addN, Op.operands, Call.operands, List.map_cons, List.map_nil, List.drop_zero, List.drop_succ_cons, List.take_succ_cons, List.take_zero, List.length_cons, List.length_nil, List.getElem?_cons_zero, List.getElem?_cons_succ, List.getElem?_toArray, Option.bind_some, Option.map_some, Option.map_none, List.append_nil, List.nil_append, List.cons_append, if_true, if_false, reduceIte, Nat.reduceEqDiff, Nat.reduceAdd, Nat.reduceSub, Int.reduceToNat, Nat.reduceLeDiff, Nat.reduceLT, and_false, and_self, Nat.zero_add, Nat.add_zero, reduceCtorEq, Option.getD_some, Option.getD_none, Option.isSome_some, Option.isSome_none, forall_const, true_and, and_true, true_implies, Bool.true_and, Bool.false_and, Bool.and_true, Bool.and_false, Bool.true_or, Bool.false_or, Bool.or_true, Bool.or_false, beq_self_eq_true, zipM, zcells, Value.cells, Value.oneCell', List.toList_toArray, Array.toList_append, Bool.not_not, List.cons.injEq, Int.reduceEq, eq_self, false_and, Bool.not_true, Bool.not_false, ne_eq, not_false_eq_true, imp_self, implies_true, av_bt, av_bf, av_and, av_or, av_nf, av_tt, av_n1, av_n2, av_t1, av_tp, retQ, retL, resV, RetV, RetOk, SubL, entD_len, entD_take, entD_hd, entD_ln, entD_ic, entD_d1, entD_d2, entD_d3, entD_d4, entD_d5, entD_d6, entD_d7, ty_39, ty_3]
  exact Sub.of_eq (by simp [countsB])
set_option maxHeartbeats 4000000
theorem evalid_spec (x : Ent) : Spec Try.prog 53 [.agg (entD x)] (.r1 (aB (validE x))) := by
  refine spec_of T_ok Try.func53 (by dsimp only [Try.f53]) rfl rfl (by simp) fun w F => ?_
  repeat' (first
    | (with_reducible refine aw_seq ?_)
    | ((with_reducible refine twoG_intro ?_ ?_) <;> intro hTw <;> first | (exact Bool.noConfusion hTw) | ((try simp only [hTw, Bool.not_true, Bool.not_false, Bool.true_and, Bool.false_and, Bool.and_true, Bool.and_false, Bool.true_or, Bool.false_or, Bool.or_true, Bool.or_false]); (first | (guard_hyp hTw : true = true; clear hTw) | (guard_hyp hTw : false = false; clear hTw) | (revert hTw; intro _))))
    | ((with_reducible refine two_intro ?_ ?_) <;> intro hTw <;> first | (exact Bool.noConfusion hTw) | ((first | (guard_hyp hTw : true = true; clear hTw) | (guard_hyp hTw : false = false; clear hTw) | (revert hTw; intro _))))
    | ((with_reducible refine And.intro ?_ ?_); (focus (first | omega | rfl | decide | grind)))
    | (with_reducible refine aw_block ?_)
    | (with_reducible refine aw_scope ?_)
    | ((first
        | ((with_reducible refine aw_regionA T_ok ?_ ?_); (focus kernel_rfl))
        | ((with_reducible refine aw_drawnA T_ok ?_ ?_ ?_ ?_); (focus kernel_rfl); (focus kernel_rfl); (focus kernel_rfl))
        | ((with_reducible refine callK_intro (eid_spec x.no) (by with_unfolding_all rfl) ?_ ?_); (focus kernel_rfl))
        | ((with_reducible refine callI_spec (eid_spec x.no) (by with_unfolding_all rfl) ?_ ?_ ?_); (focus kernel_rfl); (focus kernel_rfl))
        | ((with_reducible refine callK_intro (eid_spec x.a) (by with_unfolding_all rfl) ?_ ?_); (focus kernel_rfl))
        | ((with_reducible refine callI_spec (eid_spec x.a) (by with_unfolding_all rfl) ?_ ?_ ?_); (focus kernel_rfl); (focus kernel_rfl))
        | ((with_reducible refine callK_intro (espan_spec x.frm x.til) (by with_unfolding_all rfl) ?_ ?_); (focus kernel_rfl))
        | ((with_reducible refine callI_spec (espan_spec x.frm x.til) (by with_unfolding_all rfl) ?_ ?_ ?_); (focus kernel_rfl); (focus kernel_rfl))
        | ((with_reducible refine callK_intro (espan_spec x.known x.gone) (by with_unfolding_all rfl) ?_ ?_); (focus kernel_rfl))
        | ((with_reducible refine callI_spec (espan_spec x.known x.gone) (by with_unfolding_all rfl) ?_ ?_ ?_); (focus kernel_rfl); (focus kernel_rfl))
        | ((with_reducible refine callK_intro (eid_spec x.b) (by with_unfolding_all rfl) ?_ ?_); (focus kernel_rfl))
        | ((with_reducible refine callI_spec (eid_spec x.b) (by with_unfolding_all rfl) ?_ ?_ ?_); (focus kernel_rfl); (focus kernel_rfl))
        | (with_reducible refine aw_label ?_)
        | ((with_reducible refine aw_rfM ?_ ?_); (focus kernel_rfl))
        | (with_reducible refine aw_skip ?_)
        | (with_reducible refine aw_exit ?_)
        | ((with_reducible refine aw_condM ?_ ?_); (focus kernel_rfl))
        | (with_reducible refine aw_ret ?_)
      ); simp only [↓rwp.eq_def, ↓sop.eq_def, ↓slotK.eq_def, inV, shT, unT, inQ, rfQ, rfEnd, resOf, pickT, setP, ydA, ydQ, rowW, vD, fillV,  ↓gop.eq_def, ↓hop.eq_def, ↓hopH.eq_def, ↓hwp.eq_def, ↓ldV.eq_def, ↓ldK.eq_def, ↓ixK.eq_def, ↓addOff.eq_def, ↓exK.eq_def, ↓notK.eq_def, ↓pickK.eq_def, ↓iop2.eq_def, ↓binK.eq_def, ↓eqop.eq_def, icells, ↓iop.eq_def, ↓cutK.eq_def, ↓lenK.eq_def, ↓lenM.eq_def, tyInt, ↓lookK.eq_def, ↓mpK.eq_def, keyV, allI, fitK, lkM, upM, dlM, kq, ↓cvK.eq_def, ↓mmK.eq_def, ↓biK.eq_def, ↓stK.eq_def, ↓apK.eq_def, ↓apD.eq_def, ↓apS.eq_def, nxt, put, setT, setB, delB, lkT_n, lkT_c, lkB_n, lkB_c, ev, ofC, inT, ofA, ofRet, dV_n, dV_c, getD_enc, toDs_dV, List.head?_cons, List.length_map, Option.toArray_some, Option.toArray_none, Int.toNat_natCast, slOf, TyK.agg, vcells, splice, pickOps, zOf, strip, stripP, gOf, allP, rowV, toDs, toD, toA, toAs, headOps, tailOps, isT, addN, Op.operands, Call.operands, List.map_cons, List.map_nil, List.drop_zero, List.drop_succ_cons, List.take_succ_cons, List.take_zero, List.length_cons, List.length_nil, List.getElem?_cons_zero, List.getElem?_cons_succ, List.getElem?_toArray, Option.bind_some, Option.map_some, Option.map_none, List.append_nil, List.nil_append, List.cons_append, if_true, if_false, reduceIte, Nat.reduceEqDiff, Nat.reduceAdd, Nat.reduceSub, Int.reduceToNat, Nat.reduceLeDiff, Nat.reduceLT, and_false, and_self, Nat.zero_add, Nat.add_zero, reduceCtorEq, Option.getD_some, Option.getD_none, Option.isSome_some, Option.isSome_none, forall_const, true_and, and_true, true_implies, Bool.true_and, Bool.false_and, Bool.and_true, Bool.and_false, Bool.true_or, Bool.false_or, Bool.or_true, Bool.or_false, beq_self_eq_true, zipM, zcells, Value.cells, Value.oneCell', List.toList_toArray, Array.toList_append, Bool.not_not, List.cons.injEq, Int.reduceEq, eq_self, false_and, Bool.not_true, Bool.not_false, ne_eq, not_false_eq_true, imp_self, implies_true, av_bt, av_bf, av_and, av_or, av_nf, av_tt, av_n1, av_n2, av_t1, av_tp, retQ, retL, resV, RetV, RetOk, SubL, entD_len, entD_take, entD_hd, entD_ln, entD_ic, entD_d1, entD_d2, entD_d3, entD_d4, entD_d5, entD_d6, entD_d7, ty_39, ty_3]; try simp (disch := omega) only [av_w, av_t1, av_tp, Int.toNat_natCast]))
  all_goals (refine Sub.of_eq (congrArg aB ?_); simp only [validE, fitsB]; grind)

end Go.Proofs.Ytfmefdeldgmhpaa

namespace Go.Proofs.Ytfmefdeldgmhpaa
set_option linter.unusedSimpArgs false
set_option linter.unusedVariables false
open Go.RowKit
instance : Inhabited Ent := ⟨⟨0, 0, 0, 0, 0, 0, 0, 0⟩⟩
def lastAt (l : List Ent) (k : Nat) : Int := if k = 0 then -1 else (l.getD (k - 1) default).no
theorem goodL_at (l : List Ent) (k : Nat) (h : k < l.length) : goodL (lastAt l k) (l.drop k) = (validE (l.getD k default) && decide (lastAt l k < (l.getD k default).no) && goodL (lastAt l (k + 1)) (l.drop (k + 1))) := by
  rw [List.drop_eq_getElem_cons h, goodL]
  have : l.getD k default = l[k] := by simp [List.getD, h]
  simp only [lastAt, this, Nat.add_sub_cancel]
  rfl
theorem validE_no (x : Ent) : validE x = true → 0 ≤ x.no := by
  simp [validE, idB]; omega
set_option maxRecDepth 100000
set_option maxHeartbeats 4000000
abbrev aEs (l : List Ent) : A := .one (.sl 8 (entD default) (l.map entD))
abbrev vEs (l : List Ent) : V := .d (.sl 8 (entD default) (l.map entD))
theorem echeck_spec (l : List Ent) (hl : l.length ≤ 140737488351232) : Spec Try.prog 29 [aEs l] (.r1 (aI (checkL l))) := by
  refine spec_of T_ok Try.func29 (by dsimp only [Try.f29]) rfl rfl (by simp) fun w F => ?_
  repeat' (first
    | (with_reducible refine aw_seq ?_)
    | ((with_reducible refine twoG_intro ?_ ?_) <;> intro hTw <;> first | (exact Bool.noConfusion hTw) | ((try simp only [hTw, Bool.not_true, Bool.not_false, Bool.true_and, Bool.false_and, Bool.and_true, Bool.and_false, Bool.true_or, Bool.false_or, Bool.or_true, Bool.or_false]); (first | (guard_hyp hTw : true = true; clear hTw) | (guard_hyp hTw : false = false; clear hTw) | (revert hTw; intro _))))
    | ((with_reducible refine two_intro ?_ ?_) <;> intro hTw <;> first | (exact Bool.noConfusion hTw) | ((first | (guard_hyp hTw : true = true; clear hTw) | (guard_hyp hTw : false = false; clear hTw) | (revert hTw; intro _))))
    | ((with_reducible refine And.intro ?_ ?_); (focus (first | omega | rfl | decide | grind)))
    | (with_reducible refine aw_block ?_)
    | (with_reducible refine aw_scope ?_)
    | ((first
        | ((with_reducible refine aw_regionA T_ok ?_ ?_); (focus kernel_rfl))
        | ((with_reducible refine aw_drawnA T_ok ?_ ?_ ?_ ?_); (focus kernel_rfl); (focus kernel_rfl); (focus kernel_rfl))
        | ((with_reducible refine callK_intro (evalid_spec _) (by with_unfolding_all rfl) ?_ ?_); (focus kernel_rfl))
        | ((with_reducible refine callI_spec (evalid_spec _) (by with_unfolding_all rfl) ?_ ?_ ?_); (focus kernel_rfl); (focus kernel_rfl))
        | (with_reducible refine aw_label ?_)
        | ((with_reducible refine aw_rfM ?_ ?_); (focus kernel_rfl))
        | (with_reducible refine aw_skip ?_)
        | (with_reducible refine aw_exit ?_)
        | ((with_reducible refine aw_condM ?_ ?_); (focus kernel_rfl))
        | (with_reducible refine aw_ret ?_)
      ); simp only [↓rwp.eq_def, ↓sop.eq_def, ↓slotK.eq_def, inV, shT, unT, inQ, rfQ, rfEnd, resOf, pickT, setP, ydA, ydQ, rowW, vD, fillV,  ↓gop.eq_def, ↓hop.eq_def, ↓hopH.eq_def, ↓hwp.eq_def, ↓ldV.eq_def, ↓ldK.eq_def, ↓ixK.eq_def, ↓addOff.eq_def, ↓exK.eq_def, ↓notK.eq_def, ↓pickK.eq_def, ↓iop2.eq_def, ↓binK.eq_def, ↓eqop.eq_def, icells, ↓iop.eq_def, ↓cutK.eq_def, ↓lenK.eq_def, ↓lenM.eq_def, tyInt, ↓lookK.eq_def, ↓mpK.eq_def, keyV, allI, fitK, lkM, upM, dlM, kq, ↓cvK.eq_def, ↓mmK.eq_def, ↓biK.eq_def, ↓stK.eq_def, ↓apK.eq_def, ↓apD.eq_def, ↓apS.eq_def, nxt, put, setT, setB, delB, lkT_n, lkT_c, lkB_n, lkB_c, ev, ofC, inT, ofA, ofRet, dV_n, dV_c, getD_enc, toDs_dV, List.head?_cons, List.length_map, Option.toArray_some, Option.toArray_none, Int.toNat_natCast, slOf, TyK.agg, vcells, splice, pickOps, zOf, strip, stripP, gOf, allP, rowV, toDs, toD, toA, toAs, headOps, tailOps, isT, addN, Op.operands, Call.operands, List.map_cons, List.map_nil, List.drop_zero, List.drop_succ_cons, List.take_succ_cons, List.take_zero, List.length_cons, List.length_nil, List.getElem?_cons_zero, List.getElem?_cons_succ, List.getElem?_toArray, Option.bind_some, Option.map_some, Option.map_none, List.append_nil, List.nil_append, List.cons_append, if_true, if_false, reduceIte, Nat.reduceEqDiff, Nat.reduceAdd, Nat.reduceSub, Int.reduceToNat, Nat.reduceLeDiff, Nat.reduceLT, and_false, and_self, Nat.zero_add, Nat.add_zero, reduceCtorEq, Option.getD_some, Option.getD_none, Option.isSome_some, Option.isSome_none, forall_const, true_and, and_true, true_implies, Bool.true_and, Bool.false_and, Bool.and_true, Bool.and_false, Bool.true_or, Bool.false_or, Bool.or_true, Bool.or_false, beq_self_eq_true, zipM, zcells, Value.cells, Value.oneCell', List.toList_toArray, Array.toList_append, Bool.not_not, List.cons.injEq, Int.reduceEq, eq_self, false_and, Bool.not_true, Bool.not_false, ne_eq, not_false_eq_true, imp_self, implies_true, av_bt, av_bf, av_and, av_or, av_nf, av_tt, av_n1, av_n2, av_t1, av_tp, retQ, retL, resV, RetV, RetOk, SubL, entD_len, entD_take, entD_hd, entD_ln, entD_ic, entD_d1, entD_d2, entD_d3, entD_d4, entD_d5, entD_d6, entD_d7, ty_39, ty_3, ty_22]; try simp (disch := omega) only [av_w, av_t1, av_tp, Int.toNat_natCast]))
  · rename_i h
    exact Sub.of_eq (congrArg aI (by simp at h; rw [checkL, if_pos (by omega)]))
  rename_i h
  refine aw_loopI (fun k : Nat => ⟨[(0, vEs l), (3, vI k)], [], 0⟩) (fun k => k ≤ l.length ∧ goodL (-1) l = goodL (lastAt l k) (l.drop k)) (fun k => l.length - k) 0 ⟨Nat.zero_le _, rfl⟩ (wk_of [] rfl rfl ?_ ?_) ?_
  · simp only [wkT, wkB, wkB1, subV, subVs, subD, subB, lkN_n, lkN_c, lkT_n, lkT_c, lkB_n, lkB_c, if_true, if_false, reduceIte, Nat.reduceEqDiff, true_and, and_true, and_self, inT, ofA]
    rfl
  · simp only [wkT, wkB, wkB1, subV, subVs, subD, subB, lkN_n, lkN_c, lkT_n, lkT_c, lkB_n, lkB_c, if_true, if_false, reduceIte, Nat.reduceEqDiff, true_and, and_true, and_self, inT, ofA]
  rintro k ⟨hk, hg⟩
  repeat' (first
    | (with_reducible refine aw_seq ?_)
    | ((with_reducible refine twoG_intro ?_ ?_) <;> intro hTw <;> first | (exact Bool.noConfusion hTw) | ((try simp only [hTw, Bool.not_true, Bool.not_false, Bool.true_and, Bool.false_and, Bool.and_true, Bool.and_false, Bool.true_or, Bool.false_or, Bool.or_true, Bool.or_false]); (first | (guard_hyp hTw : true = true; clear hTw) | (guard_hyp hTw : false = false; clear hTw) | (revert hTw; intro _))))
    | ((with_reducible refine two_intro ?_ ?_) <;> intro hTw <;> first | (exact Bool.noConfusion hTw) | ((first | (guard_hyp hTw : true = true; clear hTw) | (guard_hyp hTw : false = false; clear hTw) | (revert hTw; intro _))))
    | ((with_reducible refine And.intro ?_ ?_); (focus (first | omega | rfl | decide | grind)))
    | (with_reducible refine aw_block ?_)
    | (with_reducible refine aw_scope ?_)
    | ((first
        | ((with_reducible refine aw_regionA T_ok ?_ ?_); (focus kernel_rfl))
        | ((with_reducible refine aw_drawnA T_ok ?_ ?_ ?_ ?_); (focus kernel_rfl); (focus kernel_rfl); (focus kernel_rfl))
        | ((with_reducible refine callK_intro (evalid_spec _) (by with_unfolding_all rfl) ?_ ?_); (focus kernel_rfl))
        | ((with_reducible refine callI_spec (evalid_spec _) (by with_unfolding_all rfl) ?_ ?_ ?_); (focus kernel_rfl); (focus kernel_rfl))
        | (with_reducible refine aw_label ?_)
        | ((with_reducible refine aw_rfM ?_ ?_); (focus kernel_rfl))
        | (with_reducible refine aw_skip ?_)
        | (with_reducible refine aw_exit ?_)
        | ((with_reducible refine aw_condM ?_ ?_); (focus kernel_rfl))
        | (with_reducible refine aw_ret ?_)
      ); simp only [↓rwp.eq_def, ↓sop.eq_def, ↓slotK.eq_def, inV, shT, unT, inQ, rfQ, rfEnd, resOf, pickT, setP, ydA, ydQ, rowW, vD, fillV,  ↓gop.eq_def, ↓hop.eq_def, ↓hopH.eq_def, ↓hwp.eq_def, ↓ldV.eq_def, ↓ldK.eq_def, ↓ixK.eq_def, ↓addOff.eq_def, ↓exK.eq_def, ↓notK.eq_def, ↓pickK.eq_def, ↓iop2.eq_def, ↓binK.eq_def, ↓eqop.eq_def, icells, ↓iop.eq_def, ↓cutK.eq_def, ↓lenK.eq_def, ↓lenM.eq_def, tyInt, ↓lookK.eq_def, ↓mpK.eq_def, keyV, allI, fitK, lkM, upM, dlM, kq, ↓cvK.eq_def, ↓mmK.eq_def, ↓biK.eq_def, ↓stK.eq_def, ↓apK.eq_def, ↓apD.eq_def, ↓apS.eq_def, nxt, put, setT, setB, delB, lkT_n, lkT_c, lkB_n, lkB_c, ev, ofC, inT, ofA, ofRet, dV_n, dV_c, getD_enc, toDs_dV, List.head?_cons, List.length_map, Option.toArray_some, Option.toArray_none, Int.toNat_natCast, slOf, TyK.agg, vcells, splice, pickOps, zOf, strip, stripP, gOf, allP, rowV, toDs, toD, toA, toAs, headOps, tailOps, isT, addN, Op.operands, Call.operands, List.map_cons, List.map_nil, List.drop_zero, List.drop_succ_cons, List.take_succ_cons, List.take_zero, List.length_cons, List.length_nil, List.getElem?_cons_zero, List.getElem?_cons_succ, List.getElem?_toArray, Option.bind_some, Option.map_some, Option.map_none, List.append_nil, List.nil_append, List.cons_append, if_true, if_false, reduceIte, Nat.reduceEqDiff, Nat.reduceAdd, Nat.reduceSub, Int.reduceToNat, Nat.reduceLeDiff, Nat.reduceLT, and_false, and_self, Nat.zero_add, Nat.add_zero, reduceCtorEq, Option.getD_some, Option.getD_none, Option.isSome_some, Option.isSome_none, forall_const, true_and, and_true, true_implies, Bool.true_and, Bool.false_and, Bool.and_true, Bool.and_false, Bool.true_or, Bool.false_or, Bool.or_true, Bool.or_false, beq_self_eq_true, zipM, zcells, Value.cells, Value.oneCell', List.toList_toArray, Array.toList_append, Bool.not_not, List.cons.injEq, Int.reduceEq, eq_self, false_and, Bool.not_true, Bool.not_false, ne_eq, not_false_eq_true, imp_self, implies_true, av_bt, av_bf, av_and, av_or, av_nf, av_tt, av_n1, av_n2, av_t1, av_tp, retQ, retL, resV, RetV, RetOk, SubL, entD_len, entD_take, entD_hd, entD_ln, entD_ic, entD_d1, entD_d2, entD_d3, entD_d4, entD_d5, entD_d6, entD_d7, ty_39, ty_3, ty_22]; try simp (disch := omega) only [av_w, av_t1, av_tp, Int.toNat_natCast]))
  · rename_i h1 h2
    have hlt : k < l.length := by simp at h1; omega
    have h0 := validE_no (l.getD k default)
    refine Sub.of_eq (congrArg aI ?_)
    rw [checkL, if_neg (by simp at h; omega), hg, goodL_at l k hlt]
    simp only [lastAt]
    grind
  · rename_i h1 h2
    have hlt : k < l.length := by simp at h1; omega
    have h0 := validE_no (l.getD k default)
    refine ⟨k + 1, ⟨by omega, ?_⟩, by dsimp only; omega, wk_of [] rfl rfl ?_ ?_⟩
    · rw [hg, goodL_at l k hlt]
      simp only [lastAt] at *
      grind
    · simp only [wkT, wkB, wkB1, subV, subVs, subD, subB, lkN_n, lkN_c, lkT_n, lkT_c, lkB_n, lkB_c, if_true, if_false, reduceIte, Nat.reduceEqDiff, true_and, and_true, and_self, inT, ofA]
      rfl
    · simp only [wkT, wkB, wkB1, subV, subVs, subD, subB, lkN_n, lkN_c, lkT_n, lkT_c, lkB_n, lkB_c, if_true, if_false, reduceIte, Nat.reduceEqDiff, true_and, and_true, and_self, inT, ofA]
  · rename_i h1
    have hk2 : k = l.length := by simp at h1; omega
    subst hk2
    refine Sub.of_eq (congrArg aI ?_)
    rw [checkL, if_neg (by simp at h; omega), hg, List.drop_length, goodL, if_pos rfl]
end Go.Proofs.Ytfmefdeldgmhpaa

namespace Go.Proofs.Ytfmefdeldgmhpaa
set_option linter.unusedSimpArgs false
set_option linter.unusedVariables false
open Go.RowKit
set_option maxRecDepth 100000
set_option maxHeartbeats 4000000
theorem ereplaces_spec (y x : Ent) : Spec Try.prog 51 [.agg (entD y), .agg (entD x)] (.r1 (aB (replB y x))) := by
  refine spec_of T_ok Try.func51 (by dsimp only [Try.f51]) rfl rfl (by simp) fun w F => ?_
  repeat' (first
    | (with_reducible refine aw_seq ?_)
    | ((with_reducible refine twoG_intro ?_ ?_) <;> intro hTw <;> first | (exact Bool.noConfusion hTw) | ((try simp only [hTw, Bool.not_true, Bool.not_false, Bool.true_and, Bool.false_and, Bool.and_true, Bool.and_false, Bool.true_or, Bool.false_or, Bool.or_true, Bool.or_false]); (first | (guard_hyp hTw : true = true; clear hTw) | (guard_hyp hTw : false = false; clear hTw) | (revert hTw; intro _))))
    | ((with_reducible refine two_intro ?_ ?_) <;> intro hTw <;> first | (exact Bool.noConfusion hTw) | ((first | (guard_hyp hTw : true = true; clear hTw) | (guard_hyp hTw : false = false; clear hTw) | (revert hTw; intro _))))
    | ((with_reducible refine And.intro ?_ ?_); (focus (first | omega | rfl | decide | grind)))
    | (with_reducible refine aw_block ?_)
    | (with_reducible refine aw_scope ?_)
    | ((first
        | ((with_reducible refine aw_regionA T_ok ?_ ?_); (focus kernel_rfl))
        | ((with_reducible refine aw_drawnA T_ok ?_ ?_ ?_ ?_); (focus kernel_rfl); (focus kernel_rfl); (focus kernel_rfl))
        | (with_reducible refine aw_label ?_)
        | ((with_reducible refine aw_rfM ?_ ?_); (focus kernel_rfl))
        | (with_reducible refine aw_skip ?_)
        | (with_reducible refine aw_exit ?_)
        | ((with_reducible refine aw_condM ?_ ?_); (focus kernel_rfl))
        | (with_reducible refine aw_ret ?_)
      ); simp only [↓rwp.eq_def, ↓sop.eq_def, ↓slotK.eq_def, inV, shT, unT, inQ, rfQ, rfEnd, resOf, pickT, setP, ydA, ydQ, rowW, vD, fillV,  ↓gop.eq_def, ↓hop.eq_def, ↓hopH.eq_def, ↓hwp.eq_def, ↓ldV.eq_def, ↓ldK.eq_def, ↓ixK.eq_def, ↓addOff.eq_def, ↓exK.eq_def, ↓notK.eq_def, ↓pickK.eq_def, ↓iop2.eq_def, ↓binK.eq_def, ↓eqop.eq_def, icells, ↓iop.eq_def, ↓cutK.eq_def, ↓lenK.eq_def, ↓lenM.eq_def, tyInt, ↓lookK.eq_def, ↓mpK.eq_def, keyV, allI, fitK, lkM, upM, dlM, kq, ↓cvK.eq_def, ↓mmK.eq_def, ↓biK.eq_def, ↓stK.eq_def, ↓apK.eq_def, ↓apD.eq_def, ↓apS.eq_def, nxt, put, setT, setB, delB, lkT_n, lkT_c, lkB_n, lkB_c, ev, ofC, inT, ofA, ofRet, dV_n, dV_c, getD_enc, toDs_dV, List.head?_cons, List.length_map, Option.toArray_some, Option.toArray_none, Int.toNat_natCast, slOf, TyK.agg, vcells, splice, pickOps, zOf, strip, stripP, gOf, allP, rowV, toDs, toD, toA, toAs, headOps, tailOps, isT, addN, Op.operands, Call.operands, List.map_cons, List.map_nil, List.drop_zero, List.drop_succ_cons, List.take_succ_cons, List.take_zero, List.length_cons, List.length_nil, List.getElem?_cons_zero, List.getElem?_cons_succ, List.getElem?_toArray, Option.bind_some, Option.map_some, Option.map_none, List.append_nil, List.nil_append, List.cons_append, if_true, if_false, reduceIte, Nat.reduceEqDiff, Nat.reduceAdd, Nat.reduceSub, Int.reduceToNat, Nat.reduceLeDiff, Nat.reduceLT, and_false, and_self, Nat.zero_add, Nat.add_zero, reduceCtorEq, Option.getD_some, Option.getD_none, Option.isSome_some, Option.isSome_none, forall_const, true_and, and_true, true_implies, Bool.true_and, Bool.false_and, Bool.and_true, Bool.and_false, Bool.true_or, Bool.false_or, Bool.or_true, Bool.or_false, beq_self_eq_true, zipM, zcells, Value.cells, Value.oneCell', List.toList_toArray, Array.toList_append, Bool.not_not, List.cons.injEq, Int.reduceEq, eq_self, false_and, Bool.not_true, Bool.not_false, ne_eq, not_false_eq_true, imp_self, implies_true, av_bt, av_bf, av_and, av_or, av_nf, av_tt, av_n1, av_n2, av_t1, av_tp, retQ, retL, resV, RetV, RetOk, SubL, entD_len, entD_take, entD_hd, entD_ln, entD_ic, entD_d1, entD_d2, entD_d3, entD_d4, entD_d5, entD_d6, entD_d7, ty_39, ty_3, ty_22]; try simp (disch := omega) only [av_w, av_t1, av_tp, Int.toNat_natCast]))
  all_goals (refine Sub.of_eq (congrArg aB ?_); simp only [replB, oneB, Ent.key]; grind)
/-- what stands, of the first k -/
def pre (l : List Ent) (day time : Int) (k : Nat) : List Ent := (l.take k).filter (fun x => countsB day time x && !(l.any (fun y => countsB day time y && replB y x)))
theorem pre_succ (l : List Ent) (day time : Int) (k : Nat) (h : k < l.length) : pre l day time (k + 1) = pre l day time k ++ (if (countsB day time (l.getD k default) && !(l.any (fun y => countsB day time y && replB y (l.getD k default)))) = true then [l.getD k default] else []) := by
  unfold pre
  rw [List.take_succ_eq_append_getElem h, List.filter_append]
  have : l.getD k default = l[k] := by simp [List.getD, h]
  rw [this]
  congr 1
  simp only [List.filter_cons, List.filter_nil]
theorem pre_len (l : List Ent) (day time : Int) (k : Nat) : (pre l day time k).length ≤ k := by
  unfold pre
  exact Nat.le_trans (List.length_filter_le _ _) (List.length_take_le _ _)
theorem any_succ (l : List Ent) (p : Ent → Bool) (k : Nat) (h : k < l.length) : (l.take (k + 1)).any p = ((l.take k).any p || p (l.getD k default)) := by
  rw [List.take_succ_eq_append_getElem h, List.any_append]
  have : l.getD k default = l[k] := by simp [List.getD, h]
  rw [this]; simp
def errS (l : List Ent) (day time : Int) : Int := if checkL l ≠ 0 then checkL l else if day < 0 ∨ 2097152 ≤ day ∨ time < 0 ∨ 2097152 ≤ time then 1 else 0
def standE (l : List Ent) (day time : Int) : List Ent := if errS l day time = 0 then standRef day time l else []
theorem estanding_spec (l : List Ent) (day time : Int) (hl : l.length ≤ 140737488351232) : Spec Try.prog 27 [aEs l, aI day, aI time] (.rt [aEs (standE l day time), aI (errS l day time)]) := by
  refine spec_of T_ok Try.func27 (by dsimp only [Try.f27]) rfl rfl (by simp) fun w F => ?_
  repeat' (first
    | (with_reducible refine aw_seq ?_)
    | ((with_reducible refine twoG_intro ?_ ?_) <;> intro hTw <;> first | (exact Bool.noConfusion hTw) | ((try simp only [hTw, Bool.not_true, Bool.not_false, Bool.true_and, Bool.false_and, Bool.and_true, Bool.and_false, Bool.true_or, Bool.false_or, Bool.or_true, Bool.or_false]); (first | (guard_hyp hTw : true = true; clear hTw) | (guard_hyp hTw : false = false; clear hTw) | (revert hTw; intro _))))
    | ((with_reducible refine two_intro ?_ ?_) <;> intro hTw <;> first | (exact Bool.noConfusion hTw) | ((first | (guard_hyp hTw : true = true; clear hTw) | (guard_hyp hTw : false = false; clear hTw) | (revert hTw; intro _))))
    | ((with_reducible refine And.intro ?_ ?_); (focus (first | omega | rfl | decide | grind)))
    | (with_reducible refine aw_block ?_)
    | (with_reducible refine aw_scope ?_)
    | ((first
        | ((with_reducible refine aw_regionA T_ok ?_ ?_); (focus kernel_rfl))
        | ((with_reducible refine aw_drawnA T_ok ?_ ?_ ?_ ?_); (focus kernel_rfl); (focus kernel_rfl); (focus kernel_rfl))
        | ((with_reducible refine callK_intro (echeck_spec l hl) (by with_unfolding_all rfl) ?_ ?_); (focus kernel_rfl))
        | ((with_reducible refine callI_spec (echeck_spec l hl) (by with_unfolding_all rfl) ?_ ?_ ?_); (focus kernel_rfl); (focus kernel_rfl))
        | (with_reducible refine aw_label ?_)
        | ((with_reducible refine aw_rfM ?_ ?_); (focus kernel_rfl))
        | (with_reducible refine aw_skip ?_)
        | (with_reducible refine aw_exit ?_)
        | ((with_reducible refine aw_condM ?_ ?_); (focus kernel_rfl))
        | (with_reducible refine aw_ret ?_)
      ); simp only [↓rwp.eq_def, ↓sop.eq_def, ↓slotK.eq_def, inV, shT, unT, inQ, rfQ, rfEnd, resOf, pickT, setP, ydA, ydQ, rowW, vD, fillV,  ↓gop.eq_def, ↓hop.eq_def, ↓hopH.eq_def, ↓hwp.eq_def, ↓ldV.eq_def, ↓ldK.eq_def, ↓ixK.eq_def, ↓addOff.eq_def, ↓exK.eq_def, ↓notK.eq_def, ↓pickK.eq_def, ↓iop2.eq_def, ↓binK.eq_def, ↓eqop.eq_def, icells, ↓iop.eq_def, ↓cutK.eq_def, ↓lenK.eq_def, ↓lenM.eq_def, tyInt, ↓lookK.eq_def, ↓mpK.eq_def, keyV, allI, fitK, lkM, upM, dlM, kq, ↓cvK.eq_def, ↓mmK.eq_def, ↓biK.eq_def, ↓stK.eq_def, ↓apK.eq_def, ↓apD.eq_def, ↓apS.eq_def, nxt, put, setT, setB, delB, lkT_n, lkT_c, lkB_n, lkB_c, ev, ofC, inT, ofA, ofRet, dV_n, dV_c, getD_enc, toDs_dV, List.head?_cons, List.length_map, Option.toArray_some, Option.toArray_none, Int.toNat_natCast, slOf, TyK.agg, vcells, splice, pickOps, zOf, strip, stripP, gOf, allP, rowV, toDs, toD, toA, toAs, headOps, tailOps, isT, addN, Op.operands, Call.operands, List.map_cons, List.map_nil, List.drop_zero, List.drop_succ_cons, List.take_succ_cons, List.take_zero, List.length_cons, List.length_nil, List.getElem?_cons_zero, List.getElem?_cons_succ, List.getElem?_toArray, Option.bind_some, Option.map_some, Option.map_none, List.append_nil, List.nil_append, List.cons_append, if_true, if_false, reduceIte, Nat.reduceEqDiff, Nat.reduceAdd, Nat.reduceSub, Int.reduceToNat, Nat.reduceLeDiff, Nat.reduceLT, and_false, and_self, Nat.zero_add, Nat.add_zero, reduceCtorEq, Option.getD_some, Option.getD_none, Option.isSome_some, Option.isSome_none, forall_const, true_and, and_true, true_implies, Bool.true_and, Bool.false_and, Bool.and_true, Bool.and_false, Bool.true_or, Bool.false_or, Bool.or_true, Bool.or_false, beq_self_eq_true, zipM, zcells, Value.cells, Value.oneCell', List.toList_toArray, Array.toList_append, Bool.not_not, List.cons.injEq, Int.reduceEq, eq_self, false_and, Bool.not_true, Bool.not_false, ne_eq, not_false_eq_true, imp_self, implies_true, av_bt, av_bf, av_and, av_or, av_nf, av_tt, av_n1, av_n2, av_t1, av_tp, retQ, retL, resV, RetV, RetOk, SubL, entD_len, entD_take, entD_hd, entD_ln, entD_ic, entD_d1, entD_d2, entD_d3, entD_d4, entD_d5, entD_d6, entD_d7, ty_39, ty_3, ty_22]; try simp (disch := omega) only [av_w, av_t1, av_tp, Int.toNat_natCast]))
  · rename_i h
    have h0 : checkL l ≠ 0 := by simpa using h
    have he : errS l day time = checkL l := by simp [errS, h0]
    rw [standE, he, if_neg h0]
    exact ⟨Sub.nil _ _, Sub.refl _⟩
  · rename_i h h2
    have h0 : checkL l = 0 := by simpa using h
    have he : errS l day time = 1 := by simp [errS, h0] at h2 ⊢; grind
    rw [standE, he, if_neg (by decide)]
    exact ⟨Sub.nil _ _, Sub.refl _⟩
  rename_i h h2
  have h0 : checkL l = 0 := by simpa using h
  have he : errS l day time = 0 := by simp [errS, h0] at h2 ⊢; grind
  rw [standE, he, if_pos rfl]
  clear h h2 he
  refine aw_loopI (fun k : Nat => ⟨[(0, vEs l), (1, vI day), (2, vI time), (9, .ow 0 8 (entD default) ((pre l day time k).map entD)), (10, vI k)], [(0, .tok 39 8 (pre l day time k).length)], 1⟩) (fun k => k ≤ l.length) (fun k => l.length - k) 0 (Nat.zero_le _) (wk_of [(0, some 0)] rfl rfl ?_ ?_) ?_
  · simp only [wkT, wkB, wkB1, subV, subVs, subD, subB, lkN_n, lkN_c, lkT_n, lkT_c, lkB_n, lkB_c, if_true, if_false, reduceIte, Nat.reduceEqDiff, true_and, and_true, and_self, inT, ofA]
    exact ⟨rfl, rfl⟩
  · simp only [wkT, wkB, wkB1, subV, subVs, subD, subB, lkN_n, lkN_c, lkT_n, lkT_c, lkB_n, lkB_c, if_true, if_false, reduceIte, Nat.reduceEqDiff, true_and, and_true, and_self, inT, ofA]
    rfl
  intro k hk
  have hp := pre_len l day time k
  have hl2 := (checkL_ok h0).1
  repeat' (first
    | (with_reducible refine aw_seq ?_)
    | ((with_reducible refine twoG_intro ?_ ?_) <;> intro hTw <;> first | (exact Bool.noConfusion hTw) | ((try simp only [hTw, Bool.not_true, Bool.not_false, Bool.true_and, Bool.false_and, Bool.and_true, Bool.and_false, Bool.true_or, Bool.false_or, Bool.or_true, Bool.or_false]); (first | (guard_hyp hTw : true = true; clear hTw) | (guard_hyp hTw : false = false; clear hTw) | (revert hTw; intro _))))
    | ((with_reducible refine two_intro ?_ ?_) <;> intro hTw <;> first | (exact Bool.noConfusion hTw) | ((first | (guard_hyp hTw : true = true; clear hTw) | (guard_hyp hTw : false = false; clear hTw) | (revert hTw; intro _))))
    | ((with_reducible refine And.intro ?_ ?_); (focus (first | omega | rfl | decide | grind)))
    | (with_reducible refine aw_block ?_)
    | (with_reducible refine aw_scope ?_)
    | ((first
        | ((with_reducible refine aw_regionA T_ok ?_ ?_); (focus kernel_rfl))
        | ((with_reducible refine aw_drawnA T_ok ?_ ?_ ?_ ?_); (focus kernel_rfl); (focus kernel_rfl); (focus kernel_rfl))
        | ((with_reducible refine callK_intro (ecounts_spec _ _ _) (by with_unfolding_all rfl) ?_ ?_); (focus kernel_rfl))
        | ((with_reducible refine callI_spec (ecounts_spec _ _ _) (by with_unfolding_all rfl) ?_ ?_ ?_); (focus kernel_rfl); (focus kernel_rfl))
        | (with_reducible refine aw_label ?_)
        | ((with_reducible refine aw_rfM ?_ ?_); (focus kernel_rfl))
        | (with_reducible refine aw_skip ?_)
        | (with_reducible refine aw_exit ?_)
        | ((with_reducible refine aw_condM ?_ ?_); (focus kernel_rfl))
        | (with_reducible refine aw_ret ?_)
      ); simp only [↓rwp.eq_def, ↓sop.eq_def, ↓slotK.eq_def, inV, shT, unT, inQ, rfQ, rfEnd, resOf, pickT, setP, ydA, ydQ, rowW, vD, fillV,  ↓gop.eq_def, ↓hop.eq_def, ↓hopH.eq_def, ↓hwp.eq_def, ↓ldV.eq_def, ↓ldK.eq_def, ↓ixK.eq_def, ↓addOff.eq_def, ↓exK.eq_def, ↓notK.eq_def, ↓pickK.eq_def, ↓iop2.eq_def, ↓binK.eq_def, ↓eqop.eq_def, icells, ↓iop.eq_def, ↓cutK.eq_def, ↓lenK.eq_def, ↓lenM.eq_def, tyInt, ↓lookK.eq_def, ↓mpK.eq_def, keyV, allI, fitK, lkM, upM, dlM, kq, ↓cvK.eq_def, ↓mmK.eq_def, ↓biK.eq_def, ↓stK.eq_def, ↓apK.eq_def, ↓apD.eq_def, ↓apS.eq_def, nxt, put, setT, setB, delB, lkT_n, lkT_c, lkB_n, lkB_c, ev, ofC, inT, ofA, ofRet, dV_n, dV_c, getD_enc, toDs_dV, List.head?_cons, List.length_map, Option.toArray_some, Option.toArray_none, Int.toNat_natCast, slOf, TyK.agg, vcells, splice, pickOps, zOf, strip, stripP, gOf, allP, rowV, toDs, toD, toA, toAs, headOps, tailOps, isT, addN, Op.operands, Call.operands, List.map_cons, List.map_nil, List.drop_zero, List.drop_succ_cons, List.take_succ_cons, List.take_zero, List.length_cons, List.length_nil, List.getElem?_cons_zero, List.getElem?_cons_succ, List.getElem?_toArray, Option.bind_some, Option.map_some, Option.map_none, List.append_nil, List.nil_append, List.cons_append, if_true, if_false, reduceIte, Nat.reduceEqDiff, Nat.reduceAdd, Nat.reduceSub, Int.reduceToNat, Nat.reduceLeDiff, Nat.reduceLT, and_false, and_self, Nat.zero_add, Nat.add_zero, reduceCtorEq, Option.getD_some, Option.getD_none, Option.isSome_some, Option.isSome_none, forall_const, true_and, and_true, true_implies, Bool.true_and, Bool.false_and, Bool.and_true, Bool.and_false, Bool.true_or, Bool.false_or, Bool.or_true, Bool.or_false, beq_self_eq_true, zipM, zcells, Value.cells, Value.oneCell', List.toList_toArray, Array.toList_append, Bool.not_not, List.cons.injEq, Int.reduceEq, eq_self, false_and, Bool.not_true, Bool.not_false, ne_eq, not_false_eq_true, imp_self, implies_true, av_bt, av_bf, av_and, av_or, av_nf, av_tt, av_n1, av_n2, av_t1, av_tp, retQ, retL, resV, RetV, RetOk, SubL, entD_len, entD_take, entD_hd, entD_ln, entD_ic, entD_d1, entD_d2, entD_d3, entD_d4, entD_d5, entD_d6, entD_d7, ty_39, ty_3, ty_22]; try simp (disch := omega) only [av_w, av_t1, av_tp, Int.toNat_natCast]))
  · rename_i h1
    have hlt : k < l.length := by simp at h1; omega
    refine aw_loopI (fun j : Nat => ⟨[(0, vEs l), (1, vI day), (2, vI time), (9, .ow 0 8 (entD default) ((pre l day time k).map entD)), (10, vI k), (11, vB (countsB day time (l.getD k default) && !((l.take j).any (fun y => countsB day time y && replB y (l.getD k default))))), (12, vI j)], [(0, .tok 39 8 (pre l day time k).length)], 1⟩) (fun j => j ≤ l.length) (fun j => l.length - j) 0 (Nat.zero_le _) (wk_of [(0, some 0)] rfl rfl ?_ ?_) ?_
    · simp only [wkT, wkB, wkB1, subV, subVs, subD, subB, lkN_n, lkN_c, lkT_n, lkT_c, lkB_n, lkB_c, if_true, if_false, reduceIte, Nat.reduceEqDiff, true_and, and_true, and_self, inT, ofA]
      exact ⟨by simp, rfl⟩
    · simp only [wkT, wkB, wkB1, subV, subVs, subD, subB, lkN_n, lkN_c, lkT_n, lkT_c, lkB_n, lkB_c, if_true, if_false, reduceIte, Nat.reduceEqDiff, true_and, and_true, and_self, inT, ofA]
    intro j hj
    repeat' (first
      | (with_reducible refine aw_seq ?_)
      | ((with_reducible refine twoG_intro ?_ ?_) <;> intro hTw <;> first | (exact Bool.noConfusion hTw) | ((try simp only [hTw, Bool.not_true, Bool.not_false, Bool.true_and, Bool.false_and, Bool.and_true, Bool.and_false, Bool.true_or, Bool.false_or, Bool.or_true, Bool.or_false]); (first | (guard_hyp hTw : true = true; clear hTw) | (guard_hyp hTw : false = false; clear hTw) | (revert hTw; intro _))))
      | ((with_reducible refine two_intro ?_ ?_) <;> intro hTw <;> first | (exact Bool.noConfusion hTw) | ((first | (guard_hyp hTw : true = true; clear hTw) | (guard_hyp hTw : false = false; clear hTw) | (revert hTw; intro _))))
      | ((with_reducible refine And.intro ?_ ?_); (focus (first | omega | rfl | decide | grind)))
      | (with_reducible refine aw_block ?_)
      | (with_reducible refine aw_scope ?_)
      | ((first
          | ((with_reducible refine aw_regionA T_ok ?_ ?_); (focus kernel_rfl))
          | ((with_reducible refine aw_drawnA T_ok ?_ ?_ ?_ ?_); (focus kernel_rfl); (focus kernel_rfl); (focus kernel_rfl))
          | ((with_reducible refine callK_intro (ecounts_spec _ _ _) (by with_unfolding_all rfl) ?_ ?_); (focus kernel_rfl))
          | ((with_reducible refine callI_spec (ecounts_spec _ _ _) (by with_unfolding_all rfl) ?_ ?_ ?_); (focus kernel_rfl); (focus kernel_rfl))
          | ((with_reducible refine callK_intro (ereplaces_spec _ _) (by with_unfolding_all rfl) ?_ ?_); (focus kernel_rfl))
          | ((with_reducible refine callI_spec (ereplaces_spec _ _) (by with_unfolding_all rfl) ?_ ?_ ?_); (focus kernel_rfl); (focus kernel_rfl))
          | (with_reducible refine aw_label ?_)
          | ((with_reducible refine aw_rfM ?_ ?_); (focus kernel_rfl))
          | (with_reducible refine aw_skip ?_)
          | (with_reducible refine aw_exit ?_)
          | ((with_reducible refine aw_condM ?_ ?_); (focus kernel_rfl))
          | (with_reducible refine aw_ret ?_)
        ); simp only [↓rwp.eq_def, ↓sop.eq_def, ↓slotK.eq_def, inV, shT, unT, inQ, rfQ, rfEnd, resOf, pickT, setP, ydA, ydQ, rowW, vD, fillV,  ↓gop.eq_def, ↓hop.eq_def, ↓hopH.eq_def, ↓hwp.eq_def, ↓ldV.eq_def, ↓ldK.eq_def, ↓ixK.eq_def, ↓addOff.eq_def, ↓exK.eq_def, ↓notK.eq_def, ↓pickK.eq_def, ↓iop2.eq_def, ↓binK.eq_def, ↓eqop.eq_def, icells, ↓iop.eq_def, ↓cutK.eq_def, ↓lenK.eq_def, ↓lenM.eq_def, tyInt, ↓lookK.eq_def, ↓mpK.eq_def, keyV, allI, fitK, lkM, upM, dlM, kq, ↓cvK.eq_def, ↓mmK.eq_def, ↓biK.eq_def, ↓stK.eq_def, ↓apK.eq_def, ↓apD.eq_def, ↓apS.eq_def, nxt, put, setT, setB, delB, lkT_n, lkT_c, lkB_n, lkB_c, ev, ofC, inT, ofA, ofRet, dV_n, dV_c, getD_enc, toDs_dV, List.head?_cons, List.length_map, Option.toArray_some, Option.toArray_none, Int.toNat_natCast, slOf, TyK.agg, vcells, splice, pickOps, zOf, strip, stripP, gOf, allP, rowV, toDs, toD, toA, toAs, headOps, tailOps, isT, addN, Op.operands, Call.operands, List.map_cons, List.map_nil, List.drop_zero, List.drop_succ_cons, List.take_succ_cons, List.take_zero, List.length_cons, List.length_nil, List.getElem?_cons_zero, List.getElem?_cons_succ, List.getElem?_toArray, Option.bind_some, Option.map_some, Option.map_none, List.append_nil, List.nil_append, List.cons_append, if_true, if_false, reduceIte, Nat.reduceEqDiff, Nat.reduceAdd, Nat.reduceSub, Int.reduceToNat, Nat.reduceLeDiff, Nat.reduceLT, and_false, and_self, Nat.zero_add, Nat.add_zero, reduceCtorEq, Option.getD_some, Option.getD_none, Option.isSome_some, Option.isSome_none, forall_const, true_and, and_true, true_implies, Bool.true_and, Bool.false_and, Bool.and_true, Bool.and_false, Bool.true_or, Bool.false_or, Bool.or_true, Bool.or_false, beq_self_eq_true, zipM, zcells, Value.cells, Value.oneCell', List.toList_toArray, Array.toList_append, Bool.not_not, List.cons.injEq, Int.reduceEq, eq_self, false_and, Bool.not_true, Bool.not_false, ne_eq, not_false_eq_true, imp_self, implies_true, av_bt, av_bf, av_and, av_or, av_nf, av_tt, av_n1, av_n2, av_t1, av_tp, retQ, retL, resV, RetV, RetOk, SubL, entD_len, entD_take, entD_hd, entD_ln, entD_ic, entD_d1, entD_d2, entD_d3, entD_d4, entD_d5, entD_d6, entD_d7, ty_39, ty_3, ty_22]; try simp (disch := omega) only [av_w, av_t1, av_tp, Int.toNat_natCast]))
    · rename_i h2 h3
      have hj2 : j < l.length := by simp at h2; omega
      refine ⟨j + 1, by omega, by dsimp only; omega, wk_of [(0, some 0)] rfl rfl ?_ ?_⟩
      · simp only [wkT, wkB, wkB1, subV, subVs, subD, subB, lkN_n, lkN_c, lkT_n, lkT_c, lkB_n, lkB_c, if_true, if_false, reduceIte, Nat.reduceEqDiff, true_and, and_true, and_self, inT, ofA]
        rw [any_succ l _ j hj2]
        exact ⟨by simp at h3 ⊢; simp [h3], rfl⟩
      · simp only [wkT, wkB, wkB1, subV, subVs, subD, subB, lkN_n, lkN_c, lkT_n, lkT_c, lkB_n, lkB_c, if_true, if_false, reduceIte, Nat.reduceEqDiff, true_and, and_true, and_self, inT, ofA]
    · rename_i h2 h3
      have hj2 : j < l.length := by simp at h2; omega
      refine ⟨j + 1, by omega, by dsimp only; omega, wk_of [(0, some 0)] rfl rfl ?_ ?_⟩
      · simp only [wkT, wkB, wkB1, subV, subVs, subD, subB, lkN_n, lkN_c, lkT_n, lkT_c, lkB_n, lkB_c, if_true, if_false, reduceIte, Nat.reduceEqDiff, true_and, and_true, and_self, inT, ofA]
        rw [any_succ l _ j hj2]
        exact ⟨by rw [h3]; simp, rfl⟩
      · simp only [wkT, wkB, wkB1, subV, subVs, subD, subB, lkN_n, lkN_c, lkT_n, lkT_c, lkB_n, lkB_c, if_true, if_false, reduceIte, Nat.reduceEqDiff, true_and, and_true, and_self, inT, ofA]
    · rename_i h2 h3
      have hj2 : j = l.length := by simp at h2; omega
      rw [hj2, List.take_length] at h3
      have hs := pre_succ l day time k hlt
      rw [if_pos h3] at hs
      refine ⟨k + 1, by omega, by dsimp only; omega, wk_of [(0, some 2)] rfl rfl ?_ ?_⟩
      · simp only [wkT, wkB, wkB1, subV, subVs, subD, subB, lkN_n, lkN_c, lkT_n, lkT_c, lkB_n, lkB_c, if_true, if_false, reduceIte, Nat.reduceEqDiff, true_and, and_true, and_self, inT, ofA]
        exact ⟨by rw [hs]; simp, rfl⟩
      · simp only [wkT, wkB, wkB1, subV, subVs, subD, subB, lkN_n, lkN_c, lkT_n, lkT_c, lkB_n, lkB_c, if_true, if_false, reduceIte, Nat.reduceEqDiff, true_and, and_true, and_self, inT, ofA]
        rw [hs]; simp
    · rename_i h2 h3
      have hj2 : j = l.length := by simp at h2; omega
      rw [hj2, List.take_length] at h3
      have hs := pre_succ l day time k hlt
      rw [if_neg (by rw [h3]; simp), List.append_nil] at hs
      refine ⟨k + 1, by omega, by dsimp only; omega, wk_of [(0, some 0)] rfl rfl ?_ ?_⟩
      · simp only [wkT, wkB, wkB1, subV, subVs, subD, subB, lkN_n, lkN_c, lkT_n, lkT_c, lkB_n, lkB_c, if_true, if_false, reduceIte, Nat.reduceEqDiff, true_and, and_true, and_self, inT, ofA]
        exact ⟨by rw [hs], rfl⟩
      · simp only [wkT, wkB, wkB1, subV, subVs, subD, subB, lkN_n, lkN_c, lkT_n, lkT_c, lkB_n, lkB_c, if_true, if_false, reduceIte, Nat.reduceEqDiff, true_and, and_true, and_self, inT, ofA]
        rw [hs]
  · rename_i h1
    have hk2 : k = l.length := by simp at h1; omega
    subst hk2
    refine ⟨Sub.sl ?_, Sub.refl _⟩
    rw [pre, List.take_length, standRef]
end Go.Proofs.Ytfmefdeldgmhpaa

namespace Go.Proofs.Ytfmefdeldgmhpaa
set_option linter.unusedSimpArgs false
set_option linter.unusedVariables false
open Go.RowKit
set_option maxRecDepth 100000
set_option maxHeartbeats 4000000
theorem keyOk_int_ : KeyOk Try.prog 3 .i := keyOk_int Try.underlying3
abbrev fnD (n : Nat) : D := .c (.func (.func n) #[] #[])
def kindsD : D := .mp .i 3 .nilFunc (.c .nilFunc) [[1], [2], [3], [4]] [fnD 68, fnD 69, fnD 67, fnD 67]
theorem gk1_spec (a b : Int) : Spec Try.prog 67 [aI a, aI b] (.r1 (aB (b == 0))) := by
  refine spec_of T_ok Try.func67 (by dsimp only [Try.f67]) rfl rfl (by simp) fun w F => ?_
  repeat' (first
    | (with_reducible refine aw_seq ?_)
    | ((with_reducible refine twoG_intro ?_ ?_) <;> intro hTw <;> first | (exact Bool.noConfusion hTw) | ((try simp only [hTw, Bool.not_true, Bool.not_false, Bool.true_and, Bool.false_and, Bool.and_true, Bool.and_false, Bool.true_or, Bool.false_or, Bool.or_true, Bool.or_false]); (first | (guard_hyp hTw : true = true; clear hTw) | (guard_hyp hTw : false = false; clear hTw) | (revert hTw; intro _))))
    | ((with_reducible refine two_intro ?_ ?_) <;> intro hTw <;> first | (exact Bool.noConfusion hTw) | ((first | (guard_hyp hTw : true = true; clear hTw) | (guard_hyp hTw : false = false; clear hTw) | (revert hTw; intro _))))
    | ((with_reducible refine And.intro ?_ ?_); (focus (first | exact keyOk_int_ | omega | rfl | decide | grind)))
    | (with_reducible refine aw_block ?_)
    | (with_reducible refine aw_scope ?_)
    | ((first
        | ((with_reducible refine aw_regionA T_ok ?_ ?_); (focus kernel_rfl))
        | ((with_reducible refine aw_drawnA T_ok ?_ ?_ ?_ ?_); (focus kernel_rfl); (focus kernel_rfl); (focus kernel_rfl))
        | (with_reducible refine aw_label ?_)
        | ((with_reducible refine aw_rfM ?_ ?_); (focus kernel_rfl))
        | (with_reducible refine aw_skip ?_)
        | (with_reducible refine aw_exit ?_)
        | ((with_reducible refine aw_condM ?_ ?_); (focus kernel_rfl))
        | (with_reducible refine aw_ret ?_)
      ); simp only [↓rwp.eq_def, ↓sop.eq_def, ↓slotK.eq_def, inV, shT, unT, inQ, rfQ, rfEnd, resOf, pickT, setP, ydA, ydQ, rowW, vD, fillV,  ↓gop.eq_def, ↓hop.eq_def, ↓hopH.eq_def, ↓hwp.eq_def, ↓ldV.eq_def, ↓ldK.eq_def, ↓ixK.eq_def, ↓addOff.eq_def, ↓exK.eq_def, ↓notK.eq_def, ↓pickK.eq_def, ↓iop2.eq_def, ↓binK.eq_def, ↓eqop.eq_def, icells, ↓iop.eq_def, ↓cutK.eq_def, ↓lenK.eq_def, ↓lenM.eq_def, tyInt, ↓lookK.eq_def, ↓mpK.eq_def, keyV, allI, fitK, lkM, upM, dlM, kq, ↓cvK.eq_def, ↓mmK.eq_def, ↓biK.eq_def, ↓stK.eq_def, ↓apK.eq_def, ↓apD.eq_def, ↓apS.eq_def, nxt, put, setT, setB, delB, lkT_n, lkT_c, lkB_n, lkB_c, ev, ofC, inT, ofA, ofRet, dV_n, dV_c, getD_enc, toDs_dV, List.head?_cons, List.length_map, Option.toArray_some, Option.toArray_none, Int.toNat_natCast, slOf, TyK.agg, vcells, splice, pickOps, zOf, strip, stripP, gOf, allP, rowV, toDs, toD, toA, toAs, headOps, tailOps, isT, addN, Op.operands, Call.operands, List.map_cons, List.map_nil, List.drop_zero, List.drop_succ_cons, List.take_succ_cons, List.take_zero, List.length_cons, List.length_nil, List.getElem?_cons_zero, List.getElem?_cons_succ, List.getElem?_toArray, Option.bind_some, Option.map_some, Option.map_none, List.append_nil, List.nil_append, List.cons_append, if_true, if_false, reduceIte, Nat.reduceEqDiff, Nat.reduceAdd, Nat.reduceSub, Int.reduceToNat, Nat.reduceLeDiff, Nat.reduceLT, and_false, and_self, Nat.zero_add, Nat.add_zero, reduceCtorEq, Option.getD_some, Option.getD_none, Option.isSome_some, Option.isSome_none, forall_const, true_and, and_true, true_implies, Bool.true_and, Bool.false_and, Bool.and_true, Bool.and_false, Bool.true_or, Bool.false_or, Bool.or_true, Bool.or_false, beq_self_eq_true, zipM, zcells, Value.cells, Value.oneCell', List.toList_toArray, Array.toList_append, Bool.not_not, List.cons.injEq, Int.reduceEq, eq_self, false_and, Bool.not_true, Bool.not_false, ne_eq, not_false_eq_true, imp_self, implies_true, av_bt, av_bf, av_and, av_or, av_nf, av_tt, av_n1, av_n2, av_t1, av_tp, retQ, retL, resV, RetV, RetOk, SubL, entD_len, entD_take, entD_hd, entD_ln, entD_ic, entD_d1, entD_d2, entD_d3, entD_d4, entD_d5, entD_d6, entD_d7, ty_39, ty_3, ty_22, ty_89, ty_87]; try simp (disch := omega) only [av_w, av_t1, av_tp, Int.toNat_natCast]))
  exact Sub.refl _
theorem gk2_spec (a b : Int) : Spec Try.prog 68 [aI a, aI b] (.r1 (aB (decide (0 ≤ b) && decide (b < 24)))) := by
  refine spec_of T_ok Try.func68 (by dsimp only [Try.f68]) rfl rfl (by simp) fun w F => ?_
  repeat' (first
    | (with_reducible refine aw_seq ?_)
    | ((with_reducible refine twoG_intro ?_ ?_) <;> intro hTw <;> first | (exact Bool.noConfusion hTw) | ((try simp only [hTw, Bool.not_true, Bool.not_false, Bool.true_and, Bool.false_and, Bool.and_true, Bool.and_false, Bool.true_or, Bool.false_or, Bool.or_true, Bool.or_false]); (first | (guard_hyp hTw : true = true; clear hTw) | (guard_hyp hTw : false = false; clear hTw) | (revert hTw; intro _))))
    | ((with_reducible refine two_intro ?_ ?_) <;> intro hTw <;> first | (exact Bool.noConfusion hTw) | ((first | (guard_hyp hTw : true = true; clear hTw) | (guard_hyp hTw : false = false; clear hTw) | (revert hTw; intro _))))
    | ((with_reducible refine And.intro ?_ ?_); (focus (first | exact keyOk_int_ | omega | rfl | decide | grind)))
    | (with_reducible refine aw_block ?_)
    | (with_reducible refine aw_scope ?_)
    | ((first
        | ((with_reducible refine aw_regionA T_ok ?_ ?_); (focus kernel_rfl))
        | ((with_reducible refine aw_drawnA T_ok ?_ ?_ ?_ ?_); (focus kernel_rfl); (focus kernel_rfl); (focus kernel_rfl))
        | (with_reducible refine aw_label ?_)
        | ((with_reducible refine aw_rfM ?_ ?_); (focus kernel_rfl))
        | (with_reducible refine aw_skip ?_)
        | (with_reducible refine aw_exit ?_)
        | ((with_reducible refine aw_condM ?_ ?_); (focus kernel_rfl))
        | (with_reducible refine aw_ret ?_)
      ); simp only [↓rwp.eq_def, ↓sop.eq_def, ↓slotK.eq_def, inV, shT, unT, inQ, rfQ, rfEnd, resOf, pickT, setP, ydA, ydQ, rowW, vD, fillV,  ↓gop.eq_def, ↓hop.eq_def, ↓hopH.eq_def, ↓hwp.eq_def, ↓ldV.eq_def, ↓ldK.eq_def, ↓ixK.eq_def, ↓addOff.eq_def, ↓exK.eq_def, ↓notK.eq_def, ↓pickK.eq_def, ↓iop2.eq_def, ↓binK.eq_def, ↓eqop.eq_def, icells, ↓iop.eq_def, ↓cutK.eq_def, ↓lenK.eq_def, ↓lenM.eq_def, tyInt, ↓lookK.eq_def, ↓mpK.eq_def, keyV, allI, fitK, lkM, upM, dlM, kq, ↓cvK.eq_def, ↓mmK.eq_def, ↓biK.eq_def, ↓stK.eq_def, ↓apK.eq_def, ↓apD.eq_def, ↓apS.eq_def, nxt, put, setT, setB, delB, lkT_n, lkT_c, lkB_n, lkB_c, ev, ofC, inT, ofA, ofRet, dV_n, dV_c, getD_enc, toDs_dV, List.head?_cons, List.length_map, Option.toArray_some, Option.toArray_none, Int.toNat_natCast, slOf, TyK.agg, vcells, splice, pickOps, zOf, strip, stripP, gOf, allP, rowV, toDs, toD, toA, toAs, headOps, tailOps, isT, addN, Op.operands, Call.operands, List.map_cons, List.map_nil, List.drop_zero, List.drop_succ_cons, List.take_succ_cons, List.take_zero, List.length_cons, List.length_nil, List.getElem?_cons_zero, List.getElem?_cons_succ, List.getElem?_toArray, Option.bind_some, Option.map_some, Option.map_none, List.append_nil, List.nil_append, List.cons_append, if_true, if_false, reduceIte, Nat.reduceEqDiff, Nat.reduceAdd, Nat.reduceSub, Int.reduceToNat, Nat.reduceLeDiff, Nat.reduceLT, and_false, and_self, Nat.zero_add, Nat.add_zero, reduceCtorEq, Option.getD_some, Option.getD_none, Option.isSome_some, Option.isSome_none, forall_const, true_and, and_true, true_implies, Bool.true_and, Bool.false_and, Bool.and_true, Bool.and_false, Bool.true_or, Bool.false_or, Bool.or_true, Bool.or_false, beq_self_eq_true, zipM, zcells, Value.cells, Value.oneCell', List.toList_toArray, Array.toList_append, Bool.not_not, List.cons.injEq, Int.reduceEq, eq_self, false_and, Bool.not_true, Bool.not_false, ne_eq, not_false_eq_true, imp_self, implies_true, av_bt, av_bf, av_and, av_or, av_nf, av_tt, av_n1, av_n2, av_t1, av_tp, retQ, retL, resV, RetV, RetOk, SubL, entD_len, entD_take, entD_hd, entD_ln, entD_ic, entD_d1, entD_d2, entD_d3, entD_d4, entD_d5, entD_d6, entD_d7, ty_39, ty_3, ty_22, ty_89, ty_87]; try simp (disch := omega) only [av_w, av_t1, av_tp, Int.toNat_natCast]))
  exact Sub.refl _
theorem gk3_spec (a b : Int) : Spec Try.prog 69 [aI a, aI b] (.r1 (aB (a != b && idB b))) := by
  refine spec_of T_ok Try.func69 (by dsimp only [Try.f69]) rfl rfl (by simp) fun w F => ?_
  repeat' (first
    | (with_reducible refine aw_seq ?_)
    | ((with_reducible refine twoG_intro ?_ ?_) <;> intro hTw <;> first | (exact Bool.noConfusion hTw) | ((try simp only [hTw, Bool.not_true, Bool.not_false, Bool.true_and, Bool.false_and, Bool.and_true, Bool.and_false, Bool.true_or, Bool.false_or, Bool.or_true, Bool.or_false]); (first | (guard_hyp hTw : true = true; clear hTw) | (guard_hyp hTw : false = false; clear hTw) | (revert hTw; intro _))))
    | ((with_reducible refine two_intro ?_ ?_) <;> intro hTw <;> first | (exact Bool.noConfusion hTw) | ((first | (guard_hyp hTw : true = true; clear hTw) | (guard_hyp hTw : false = false; clear hTw) | (revert hTw; intro _))))
    | ((with_reducible refine And.intro ?_ ?_); (focus (first | exact keyOk_int_ | omega | rfl | decide | grind)))
    | (with_reducible refine aw_block ?_)
    | (with_reducible refine aw_scope ?_)
    | ((first
        | ((with_reducible refine aw_regionA T_ok ?_ ?_); (focus kernel_rfl))
        | ((with_reducible refine aw_drawnA T_ok ?_ ?_ ?_ ?_); (focus kernel_rfl); (focus kernel_rfl); (focus kernel_rfl))
        | ((with_reducible refine callK_intro (gid_spec _) (by with_unfolding_all rfl) ?_ ?_); (focus kernel_rfl))
        | ((with_reducible refine callI_spec (gid_spec _) (by with_unfolding_all rfl) ?_ ?_ ?_); (focus kernel_rfl); (focus kernel_rfl))
        | (with_reducible refine aw_label ?_)
        | ((with_reducible refine aw_rfM ?_ ?_); (focus kernel_rfl))
        | (with_reducible refine aw_skip ?_)
        | (with_reducible refine aw_exit ?_)
        | ((with_reducible refine aw_condM ?_ ?_); (focus kernel_rfl))
        | (with_reducible refine aw_ret ?_)
      ); simp only [↓rwp.eq_def, ↓sop.eq_def, ↓slotK.eq_def, inV, shT, unT, inQ, rfQ, rfEnd, resOf, pickT, setP, ydA, ydQ, rowW, vD, fillV,  ↓gop.eq_def, ↓hop.eq_def, ↓hopH.eq_def, ↓hwp.eq_def, ↓ldV.eq_def, ↓ldK.eq_def, ↓ixK.eq_def, ↓addOff.eq_def, ↓exK.eq_def, ↓notK.eq_def, ↓pickK.eq_def, ↓iop2.eq_def, ↓binK.eq_def, ↓eqop.eq_def, icells, ↓iop.eq_def, ↓cutK.eq_def, ↓lenK.eq_def, ↓lenM.eq_def, tyInt, ↓lookK.eq_def, ↓mpK.eq_def, keyV, allI, fitK, lkM, upM, dlM, kq, ↓cvK.eq_def, ↓mmK.eq_def, ↓biK.eq_def, ↓stK.eq_def, ↓apK.eq_def, ↓apD.eq_def, ↓apS.eq_def, nxt, put, setT, setB, delB, lkT_n, lkT_c, lkB_n, lkB_c, ev, ofC, inT, ofA, ofRet, dV_n, dV_c, getD_enc, toDs_dV, List.head?_cons, List.length_map, Option.toArray_some, Option.toArray_none, Int.toNat_natCast, slOf, TyK.agg, vcells, splice, pickOps, zOf, strip, stripP, gOf, allP, rowV, toDs, toD, toA, toAs, headOps, tailOps, isT, addN, Op.operands, Call.operands, List.map_cons, List.map_nil, List.drop_zero, List.drop_succ_cons, List.take_succ_cons, List.take_zero, List.length_cons, List.length_nil, List.getElem?_cons_zero, List.getElem?_cons_succ, List.getElem?_toArray, Option.bind_some, Option.map_some, Option.map_none, List.append_nil, List.nil_append, List.cons_append, if_true, if_false, reduceIte, Nat.reduceEqDiff, Nat.reduceAdd, Nat.reduceSub, Int.reduceToNat, Nat.reduceLeDiff, Nat.reduceLT, and_false, and_self, Nat.zero_add, Nat.add_zero, reduceCtorEq, Option.getD_some, Option.getD_none, Option.isSome_some, Option.isSome_none, forall_const, true_and, and_true, true_implies, Bool.true_and, Bool.false_and, Bool.and_true, Bool.and_false, Bool.true_or, Bool.false_or, Bool.or_true, Bool.or_false, beq_self_eq_true, zipM, zcells, Value.cells, Value.oneCell', List.toList_toArray, Array.toList_append, Bool.not_not, List.cons.injEq, Int.reduceEq, eq_self, false_and, Bool.not_true, Bool.not_false, ne_eq, not_false_eq_true, imp_self, implies_true, av_bt, av_bf, av_and, av_or, av_nf, av_tt, av_n1, av_n2, av_t1, av_tp, retQ, retL, resV, RetV, RetOk, SubL, entD_len, entD_take, entD_hd, entD_ln, entD_ic, entD_d1, entD_d2, entD_d3, entD_d4, entD_d5, entD_d6, entD_d7, ty_39, ty_3, ty_22, ty_89, ty_87]; try simp (disch := omega) only [av_w, av_t1, av_tp, Int.toNat_natCast]))
  exact Sub.refl _
theorem gkinds_spec : Spec Try.prog 60 [] (.r1 (.one kindsD)) := by
  refine spec_of T_ok Try.func60 (by dsimp only [Try.f60]) rfl rfl (by simp) fun w F => ?_
  refine aw_seq (aw_region T_ok (by kernel_rfl) ?_)
  simp only [↓rwp.eq_def, ↓sop.eq_def, ↓slotK.eq_def, inV, shT, unT, inQ, rfQ, rfEnd, resOf, pickT, setP, ydA, ydQ, rowW, vD, fillV,  ↓gop.eq_def, ↓hop.eq_def, ↓hopH.eq_def, ↓hwp.eq_def, ↓ldV.eq_def, ↓ldK.eq_def, ↓ixK.eq_def, ↓addOff.eq_def, ↓exK.eq_def, ↓notK.eq_def, ↓pickK.eq_def, ↓iop2.eq_def, ↓binK.eq_def, ↓eqop.eq_def, icells, ↓iop.eq_def, ↓cutK.eq_def, ↓lenK.eq_def, ↓lenM.eq_def, tyInt, ↓lookK.eq_def, ↓mpK.eq_def, keyV, allI, fitK, lkM, upM, dlM, kq, ↓cvK.eq_def, ↓mmK.eq_def, ↓biK.eq_def, ↓stK.eq_def, ↓apK.eq_def, ↓apD.eq_def, ↓apS.eq_def, nxt, put, setT, setB, delB, lkT_n, lkT_c, lkB_n, lkB_c, ev, ofC, inT, ofA, ofRet, dV_n, dV_c, getD_enc, toDs_dV, List.head?_cons, List.length_map, Option.toArray_some, Option.toArray_none, Int.toNat_natCast, slOf, TyK.agg, vcells, splice, pickOps, zOf, strip, stripP, gOf, allP, rowV, toDs, toD, toA, toAs, headOps, tailOps, isT, addN, Op.operands, Call.operands, List.map_cons, List.map_nil, List.drop_zero, List.drop_succ_cons, List.take_succ_cons, List.take_zero, List.length_cons, List.length_nil, List.getElem?_cons_zero, List.getElem?_cons_succ, List.getElem?_toArray, Option.bind_some, Option.map_some, Option.map_none, List.append_nil, List.nil_append, List.cons_append, if_true, if_false, reduceIte, Nat.reduceEqDiff, Nat.reduceAdd, Nat.reduceSub, Int.reduceToNat, Nat.reduceLeDiff, Nat.reduceLT, and_false, and_self, Nat.zero_add, Nat.add_zero, reduceCtorEq, Option.getD_some, Option.getD_none, Option.isSome_some, Option.isSome_none, forall_const, true_and, and_true, true_implies, Bool.true_and, Bool.false_and, Bool.and_true, Bool.and_false, Bool.true_or, Bool.false_or, Bool.or_true, Bool.or_false, beq_self_eq_true, zipM, zcells, Value.cells, Value.oneCell', List.toList_toArray, Array.toList_append, Bool.not_not, List.cons.injEq, Int.reduceEq, eq_self, false_and, Bool.not_true, Bool.not_false, ne_eq, not_false_eq_true, imp_self, implies_true, av_bt, av_bf, av_and, av_or, av_nf, av_tt, av_n1, av_n2, av_t1, av_tp, entD_len, entD_take, entD_hd, entD_ln, entD_ic, entD_d1, entD_d2, entD_d3, entD_d4, entD_d5, entD_d6, entD_d7, ty_39, ty_3, ty_22, ty_89, ty_87]
  refine aw_seq (aw_region T_ok (by kernel_rfl) ?_)
  simp only [↓rwp.eq_def, ↓sop.eq_def, ↓slotK.eq_def, inV, shT, unT, inQ, rfQ, rfEnd, resOf, pickT, setP, ydA, ydQ, rowW, vD, fillV,  ↓gop.eq_def, ↓hop.eq_def, ↓hopH.eq_def, ↓hwp.eq_def, ↓ldV.eq_def, ↓ldK.eq_def, ↓ixK.eq_def, ↓addOff.eq_def, ↓exK.eq_def, ↓notK.eq_def, ↓pickK.eq_def, ↓iop2.eq_def, ↓binK.eq_def, ↓eqop.eq_def, icells, ↓iop.eq_def, ↓cutK.eq_def, ↓lenK.eq_def, ↓lenM.eq_def, tyInt, ↓lookK.eq_def, ↓mpK.eq_def, keyV, allI, fitK, lkM, upM, dlM, kq, ↓cvK.eq_def, ↓mmK.eq_def, ↓biK.eq_def, ↓stK.eq_def, ↓apK.eq_def, ↓apD.eq_def, ↓apS.eq_def, nxt, put, setT, setB, delB, lkT_n, lkT_c, lkB_n, lkB_c, ev, ofC, inT, ofA, ofRet, dV_n, dV_c, getD_enc, toDs_dV, List.head?_cons, List.length_map, Option.toArray_some, Option.toArray_none, Int.toNat_natCast, slOf, TyK.agg, vcells, splice, pickOps, zOf, strip, stripP, gOf, allP, rowV, toDs, toD, toA, toAs, headOps, tailOps, isT, addN, Op.operands, Call.operands, List.map_cons, List.map_nil, List.drop_zero, List.drop_succ_cons, List.take_succ_cons, List.take_zero, List.length_cons, List.length_nil, List.getElem?_cons_zero, List.getElem?_cons_succ, List.getElem?_toArray, Option.bind_some, Option.map_some, Option.map_none, List.append_nil, List.nil_append, List.cons_append, if_true, if_false, reduceIte, Nat.reduceEqDiff, Nat.reduceAdd, Nat.reduceSub, Int.reduceToNat, Nat.reduceLeDiff, Nat.reduceLT, and_false, and_self, Nat.zero_add, Nat.add_zero, reduceCtorEq, Option.getD_some, Option.getD_none, Option.isSome_some, Option.isSome_none, forall_const, true_and, and_true, true_implies, Bool.true_and, Bool.false_and, Bool.and_true, Bool.and_false, Bool.true_or, Bool.false_or, Bool.or_true, Bool.or_false, beq_self_eq_true, zipM, zcells, Value.cells, Value.oneCell', List.toList_toArray, Array.toList_append, Bool.not_not, List.cons.injEq, Int.reduceEq, eq_self, false_and, Bool.not_true, Bool.not_false, ne_eq, not_false_eq_true, imp_self, implies_true, av_bt, av_bf, av_and, av_or, av_nf, av_tt, av_n1, av_n2, av_t1, av_tp, entD_len, entD_take, entD_hd, entD_ln, entD_ic, entD_d1, entD_d2, entD_d3, entD_d4, entD_d5, entD_d6, entD_d7, ty_39, ty_3, ty_22, ty_89, ty_87]
  refine aw_seq (aw_region T_ok (by kernel_rfl) ?_)
  simp only [↓rwp.eq_def, ↓sop.eq_def, ↓slotK.eq_def, inV, shT, unT, inQ, rfQ, rfEnd, resOf, pickT, setP, ydA, ydQ, rowW, vD, fillV,  ↓gop.eq_def, ↓hop.eq_def, ↓hopH.eq_def, ↓hwp.eq_def, ↓ldV.eq_def, ↓ldK.eq_def, ↓ixK.eq_def, ↓addOff.eq_def, ↓exK.eq_def, ↓notK.eq_def, ↓pickK.eq_def, ↓iop2.eq_def, ↓binK.eq_def, ↓eqop.eq_def, icells, ↓iop.eq_def, ↓cutK.eq_def, ↓lenK.eq_def, ↓lenM.eq_def, tyInt, ↓lookK.eq_def, ↓mpK.eq_def, keyV, allI, fitK, lkM, upM, dlM, kq, ↓cvK.eq_def, ↓mmK.eq_def, ↓biK.eq_def, ↓stK.eq_def, ↓apK.eq_def, ↓apD.eq_def, ↓apS.eq_def, nxt, put, setT, setB, delB, lkT_n, lkT_c, lkB_n, lkB_c, ev, ofC, inT, ofA, ofRet, dV_n, dV_c, getD_enc, toDs_dV, List.head?_cons, List.length_map, Option.toArray_some, Option.toArray_none, Int.toNat_natCast, slOf, TyK.agg, vcells, splice, pickOps, zOf, strip, stripP, gOf, allP, rowV, toDs, toD, toA, toAs, headOps, tailOps, isT, addN, Op.operands, Call.operands, List.map_cons, List.map_nil, List.drop_zero, List.drop_succ_cons, List.take_succ_cons, List.take_zero, List.length_cons, List.length_nil, List.getElem?_cons_zero, List.getElem?_cons_succ, List.getElem?_toArray, Option.bind_some, Option.map_some, Option.map_none, List.append_nil, List.nil_append, List.cons_append, if_true, if_false, reduceIte, Nat.reduceEqDiff, Nat.reduceAdd, Nat.reduceSub, Int.reduceToNat, Nat.reduceLeDiff, Nat.reduceLT, and_false, and_self, Nat.zero_add, Nat.add_zero, reduceCtorEq, Option.getD_some, Option.getD_none, Option.isSome_some, Option.isSome_none, forall_const, true_and, and_true, true_implies, Bool.true_and, Bool.false_and, Bool.and_true, Bool.and_false, Bool.true_or, Bool.false_or, Bool.or_true, Bool.or_false, beq_self_eq_true, zipM, zcells, Value.cells, Value.oneCell', List.toList_toArray, Array.toList_append, Bool.not_not, List.cons.injEq, Int.reduceEq, eq_self, false_and, Bool.not_true, Bool.not_false, ne_eq, not_false_eq_true, imp_self, implies_true, av_bt, av_bf, av_and, av_or, av_nf, av_tt, av_n1, av_n2, av_t1, av_tp, entD_len, entD_take, entD_hd, entD_ln, entD_ic, entD_d1, entD_d2, entD_d3, entD_d4, entD_d5, entD_d6, entD_d7, ty_39, ty_3, ty_22, ty_89, ty_87]
  repeat refine And.intro (by first | exact keyOk_int_ | omega | rfl) ?_
  refine aw_wk (wk_frz (tm' := [(0, .d kindsD)]) ⟨⟨1, kindsD, rfl, Frz.mp rfl Frz.d (fun _ _ _ h => h) rfl rfl ?_⟩, trivial⟩) ?_
  · intro i x d' h1 h2
    match i with
    | 0 => simp at h1 h2; subst h1; subst h2; exact Frz.d
    | 1 => simp at h1 h2; subst h1; subst h2; exact Frz.d
    | 2 => simp at h1 h2; subst h1; subst h2; exact Frz.d
    | 3 => simp at h1 h2; subst h1; subst h2; exact Frz.d
    | i + 4 => simp at h1
  repeat' (first
    | (with_reducible refine aw_seq ?_)
    | ((with_reducible refine twoG_intro ?_ ?_) <;> intro hTw <;> first | (exact Bool.noConfusion hTw) | ((try simp only [hTw, Bool.not_true, Bool.not_false, Bool.true_and, Bool.false_and, Bool.and_true, Bool.and_false, Bool.true_or, Bool.false_or, Bool.or_true, Bool.or_false]); (first | (guard_hyp hTw : true = true; clear hTw) | (guard_hyp hTw : false = false; clear hTw) | (revert hTw; intro _))))
    | ((with_reducible refine two_intro ?_ ?_) <;> intro hTw <;> first | (exact Bool.noConfusion hTw) | ((first | (guard_hyp hTw : true = true; clear hTw) | (guard_hyp hTw : false = false; clear hTw) | (revert hTw; intro _))))
    | ((with_reducible refine And.intro ?_ ?_); (focus (first | exact keyOk_int_ | omega | rfl | decide | grind)))
    | (with_reducible refine aw_block ?_)
    | (with_reducible refine aw_scope ?_)
    | ((first
        | ((with_reducible refine aw_regionA T_ok ?_ ?_); (focus kernel_rfl))
        | ((with_reducible refine aw_drawnA T_ok ?_ ?_ ?_ ?_); (focus kernel_rfl); (focus kernel_rfl); (focus kernel_rfl))
        | (with_reducible refine aw_label ?_)
        | ((with_reducible refine aw_rfM ?_ ?_); (focus kernel_rfl))
        | (with_reducible refine aw_skip ?_)
        | (with_reducible refine aw_exit ?_)
        | ((with_reducible refine aw_condM ?_ ?_); (focus kernel_rfl))
        | (with_reducible refine aw_ret ?_)
      ); simp only [↓rwp.eq_def, ↓sop.eq_def, ↓slotK.eq_def, inV, shT, unT, inQ, rfQ, rfEnd, resOf, pickT, setP, ydA, ydQ, rowW, vD, fillV,  ↓gop.eq_def, ↓hop.eq_def, ↓hopH.eq_def, ↓hwp.eq_def, ↓ldV.eq_def, ↓ldK.eq_def, ↓ixK.eq_def, ↓addOff.eq_def, ↓exK.eq_def, ↓notK.eq_def, ↓pickK.eq_def, ↓iop2.eq_def, ↓binK.eq_def, ↓eqop.eq_def, icells, ↓iop.eq_def, ↓cutK.eq_def, ↓lenK.eq_def, ↓lenM.eq_def, tyInt, ↓lookK.eq_def, ↓mpK.eq_def, keyV, allI, fitK, lkM, upM, dlM, kq, ↓cvK.eq_def, ↓mmK.eq_def, ↓biK.eq_def, ↓stK.eq_def, ↓apK.eq_def, ↓apD.eq_def, ↓apS.eq_def, nxt, put, setT, setB, delB, lkT_n, lkT_c, lkB_n, lkB_c, ev, ofC, inT, ofA, ofRet, dV_n, dV_c, getD_enc, toDs_dV, List.head?_cons, List.length_map, Option.toArray_some, Option.toArray_none, Int.toNat_natCast, slOf, TyK.agg, vcells, splice, pickOps, zOf, strip, stripP, gOf, allP, rowV, toDs, toD, toA, toAs, headOps, tailOps, isT, addN, Op.operands, Call.operands, List.map_cons, List.map_nil, List.drop_zero, List.drop_succ_cons, List.take_succ_cons, List.take_zero, List.length_cons, List.length_nil, List.getElem?_cons_zero, List.getElem?_cons_succ, List.getElem?_toArray, Option.bind_some, Option.map_some, Option.map_none, List.append_nil, List.nil_append, List.cons_append, if_true, if_false, reduceIte, Nat.reduceEqDiff, Nat.reduceAdd, Nat.reduceSub, Int.reduceToNat, Nat.reduceLeDiff, Nat.reduceLT, and_false, and_self, Nat.zero_add, Nat.add_zero, reduceCtorEq, Option.getD_some, Option.getD_none, Option.isSome_some, Option.isSome_none, forall_const, true_and, and_true, true_implies, Bool.true_and, Bool.false_and, Bool.and_true, Bool.and_false, Bool.true_or, Bool.false_or, Bool.or_true, Bool.or_false, beq_self_eq_true, zipM, zcells, Value.cells, Value.oneCell', List.toList_toArray, Array.toList_append, Bool.not_not, List.cons.injEq, Int.reduceEq, eq_self, false_and, Bool.not_true, Bool.not_false, ne_eq, not_false_eq_true, imp_self, implies_true, av_bt, av_bf, av_and, av_or, av_nf, av_tt, av_n1, av_n2, av_t1, av_tp, retQ, retL, resV, RetV, RetOk, SubL, entD_len, entD_take, entD_hd, entD_ln, entD_ic, entD_d1, entD_d2, entD_d3, entD_d4, entD_d5, entD_d6, entD_d7, ty_39, ty_3, ty_22, ty_89, ty_87]; try simp (disch := omega) only [av_w, av_t1, av_tp, Int.toNat_natCast]))
  exact Sub.refl _
end Go.Proofs.Ytfmefdeldgmhpaa
