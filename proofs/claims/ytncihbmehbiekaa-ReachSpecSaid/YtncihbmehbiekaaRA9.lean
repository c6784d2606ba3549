import Derived.Test.YtncihbmehbiekaaRA8
namespace Go.Proofs.Ytncihbmehbiekaa
set_option linter.unusedVariables false
set_option linter.unusedSimpArgs false
open Go.RowKit
section
variable {P : Program} {B : Base} {T : Tab}
/-- what is there when the operations in listed have run -/
def sgC (cs : List (Nat × Nat)) (nx : Nat) (mb st0 : List (Nat × Blk)) (listed : Array Bool) (n : Nat) : Option Blk :=
  if nx ≤ n then (if listed.getD (n - nx) false = true then (if (cs.any fun c => decide (n = nx + c.2) && listed.getD c.1 false) = true then none else lkB mb n) else none) else lkB st0 n
theorem wpAny_headsC {l : List Oper} {hd tail : List Nat} {cs : List (Nat × Nat)} {Q : Exit → Act → World → Prop} {tm0 tmF : List (Nat × V)} {st0 nbF mbF : List (Nat × Blk)} {nx : Nat} (hok : drawOk l hd tail = true) (hck : takeOk l hd cs = true) (hrun : HRunC P B l.toArray st0 nx cs tmF nbF mbF (pickOps l hd) tm0 [] []) (hN : (l.all (opOk B.N)) = true)
    (hst0 : ∀ n, nx ≤ n → lkB st0 n = none)
    (hQ : ∀ E a, Gam P B ⟨tmF, nbF ++ st0, nx + l.length⟩ E a → wpListIn (fen B.r) 0 P l.toArray Q ((pickOps l tail).map (·.2)) a E.w) :
    ∀ (F : Nat) (listed : Array Bool) (E : Env) (a : Act), GInv .any l.toArray listed → (∀ t ∈ tail, listed.getD t false = false) → hd.countP (fun i => !listed.getD i false) = F →
      GamS P B (sgC cs nx mbF st0 listed) (fun n => nx ≤ n ∧ (listed.getD (n - nx) false = true → lkB mbF n = none)) E →
      GamT B (fun t => if ((pickOps l hd).any fun p => p.2.dst == some t && listed.getD p.1 false) = true then lkT tmF t else lkT tm0 t) E a → wpAnyIn (fen B.r) 0 P .any l.toArray Q (F + tail.length) listed a E.w := by
  simp only [drawOk, Bool.and_eq_true] at hok
  obtain ⟨⟨⟨⟨⟨⟨⟨⟨⟨hsink, htl⟩, hpart⟩, hlt⟩, hnd⟩, hedge⟩, hincr⟩, hdep⟩, hseq⟩, _⟩ := hok
  simp only [takeOk, Bool.and_eq_true, decide_eq_true_eq] at hck
  obtain ⟨⟨hc1, hc2⟩, hc3⟩ := hck
  have hcs : ∀ c ∈ cs, c.2 < c.1 ∧ c.1 ∈ hd ∧ reachB .any l.toArray l.length c.1 c.2 = true := fun c hc => by
    have := List.all_eq_true.1 hc1 c hc
    simp only [Bool.and_eq_true, decide_eq_true_eq] at this
    exact ⟨this.1.1, by simpa using this.1.2, this.2⟩
  obtain ⟨f1, f2, f2a, f2b, f3⟩ := hrunC_facts (fun c hc => (hcs c hc).1) _ _ _ _ hincr (fun n q h => h) hrun
  have hnd' : hd.Nodup := by simpa using hnd
  have htl' : ∀ t ∈ tail, hd.contains t = false := fun t ht => by have := List.all_eq_true.1 htl t ht; simpa using this
  have hltl : ∀ i ∈ hd, i < l.length := fun i hi => by have := List.all_eq_true.1 hlt i hi; simpa using this
  intro F
  induction F with
  | zero =>
    intro listed E a inv hT hcnt hS hGT
    have hall : ∀ i ∈ hd, listed.getD i false = true := fun i hi => by
      have := List.countP_eq_zero.1 hcnt i hi
      simpa using this
    have hsz : listed.size = l.length := by rw [inv.size]; simp
    have hcan : listed = canonH l.length hd := by
      refine Array.ext_getElem? fun i => ?_
      have hcs := (foldl_canon hd (Array.replicate l.length false) i)
      have hcsz : (canonH l.length hd).size = l.length := by unfold canonH; rw [hcs.1]; simp
      by_cases hi : i < l.length
      · have e1 : listed[i]? = some (listed.getD i false) := by simp [Array.getD_eq_getD_getElem?, hsz, hi]
        have e2 : (canonH l.length hd)[i]? = some ((canonH l.length hd).getD i false) := by simp [Array.getD_eq_getD_getElem?, hcsz, hi]
        rw [e1, e2]
        congr 1
        unfold canonH
        rw [hcs.2]
        rw [getD_replicate_false]
        simp only [Array.size_replicate, Bool.false_or]
        by_cases hh : hd.contains i = true
        · rw [hh, hall i (by simpa using hh)]; simp [hi]
        · have := List.all_eq_true.1 hpart i (List.mem_range.2 hi)
          simp only [Bool.or_eq_true] at this
          rcases this with h | h
          · exact (hh h).elim
          · rw [hT i (by simpa using h)]; simp only [Bool.not_eq_true] at hh; rw [hh]; rfl
      · rw [Array.getElem?_eq_none (by omega), Array.getElem?_eq_none (by omega)]
    rw [Nat.zero_add]
    refine wpAnyIn_of_seqT tail listed a E.w (by rw [hcan]; exact hseq) (hQ E a ⟨hS.congr (fun n => ?_) (fun n hn => ?_), ⟨fun t => ?_, hGT.defers, hGT.size⟩⟩)
    · -- the blocks
      have hap : lkB (nbF ++ st0) n = match lkB nbF n with | some b => some b | none => lkB st0 n := by
        generalize nbF = nb
        induction nb with
        | nil => rfl
        | cons p nb ih =>
          obtain ⟨k, b⟩ := p
          simp only [List.cons_append, lkB]
          split
          · rfl
          · exact ih
      have hmb : ∀ m, (¬ ∃ p ∈ pickOps l hd, m = nx + p.1) → lkB mbF m = none := fun m hm => by
        rw [f2 m (fun p hp e => hm ⟨p, hp, e⟩)]; rfl
      show lkB (nbF ++ st0) n = _
      rw [hap]
      unfold sgC
      by_cases htk : ∃ p ∈ pickOps l hd, ∃ j, lkC cs p.1 = some j ∧ n = nx + j
      · have hno := f2a n htk (fun p hp q hq j hj e => by have := (hcs _ (lkC_mem hj)).1; simp only at this; omega)
        obtain ⟨p, hp, j, hj, rfl⟩ := htk
        rw [hno, if_pos (by omega)]
        have : (cs.any fun c => decide (nx + j = nx + c.2) && listed.getD c.1 false) = true :=
          List.any_eq_true.2 ⟨_, lkC_mem hj, by simp [hall p.1 (pickOps_mem.1 hp).1]⟩
        rw [if_pos this, hst0 _ (by omega), ite_self]
      · have hno := f2b n (fun p hp j hj e => htk ⟨p, hp, j, hj, e⟩) rfl
        rw [hno]
        by_cases hn : nx ≤ n
        · rw [if_pos hn]
          have hany : ¬ (cs.any fun c => decide (n = nx + c.2) && listed.getD c.1 false) = true := fun h => by
            obtain ⟨c, hc, h⟩ := List.any_eq_true.1 h
            simp only [Bool.and_eq_true, decide_eq_true_eq] at h
            have hch := (hcs c hc).2.1
            exact htk ⟨(c.1, l[c.1]'(hltl _ hch)), pickOps_mem.2 ⟨hch, by simp [hltl _ hch]⟩, c.2, lkC_of_mem hc2 (by cases c; exact hc), h.1⟩
          rw [if_neg hany]
          by_cases hh : hd.contains (n - nx) = true
          · rw [if_pos (hall _ (by simpa using hh)), hst0 n hn]; cases lkB mbF n <;> rfl
          · have : lkB mbF n = none := hmb n (fun ⟨p, hp, e⟩ => hh (by
              have := (pickOps_mem.1 hp).1
              rw [e, Nat.add_sub_cancel_left]; simpa using this))
            rw [this, hst0 n hn]; simp
        · rw [if_neg hn]
          have : lkB mbF n = none := hmb n (fun ⟨p, hp, e⟩ => by omega)
          rw [this]
    · have hn' : nx + l.length ≤ n := hn
      refine ⟨by omega, fun h => ?_⟩
      rw [show listed.getD (n - nx) false = false by
        simp [Array.getD_eq_getD_getElem?, Array.getElem?_eq_none (show listed.size ≤ n - nx by omega)]] at h
      cases h
    · have := hGT.tm t
      show RV E (lkT tmF t) _
      by_cases hw : ((pickOps l hd).any fun p => p.2.dst == some t && listed.getD p.1 false) = true
      · rw [if_pos hw] at this; exact this
      · rw [if_neg hw] at this
        rw [f1 t (fun p hp e => hw (List.any_eq_true.2 ⟨p, hp, by simp [e, hall p.1 (pickOps_mem.1 hp).1]⟩))]
        exact this
  | succ F ih =>
    intro listed E a inv hT hcnt hS hGT
    have hsz : listed.size = l.length := by rw [inv.size]; simp
    rw [show F + 1 + tail.length = (F + tail.length) + 1 by omega]
    obtain ⟨k, hk, hku⟩ : ∃ k, k ∈ hd ∧ listed.getD k false = false := by
      have : 0 < hd.countP (fun i => !listed.getD i false) := by omega
      obtain ⟨k, h1, h2⟩ := List.countP_pos_iff.1 this
      exact ⟨k, h1, by simpa using h2⟩
    have hkl : k < l.length := hltl k hk
    have hku' : listed.getD k true = false := getD_in (by omega) hku
    refine ⟨fun hr => ?_, fun i hi => ?_⟩
    · obtain ⟨m, ⟨hm1, hm2⟩, hm3⟩ := exists_min (p := fun m => m < l.length ∧ listed.getD m false = false) ⟨k, hkl, hku⟩
      have : m ∈ Region.ready .any l.toArray listed := by
        refine mem_ready.2 ⟨getD_in (by omega) hm2, l[m], by simp [hm1], fun e he hb => ?_⟩
        have h1 := List.all_eq_true.1 hedge m (List.mem_range.2 hm1)
        rw [List.getElem?_eq_getElem hm1] at h1
        have h2 := List.all_eq_true.1 h1 e (by simpa using he)
        rw [hb] at h2
        simp at h2
        cases hc : listed.getD e.on false with
        | true => rfl
        | false => exact (hm3 e.on h2 ⟨by omega, hc⟩).elim
      rw [hr] at this
      cases this
    · have hih := sink_spec hsink inv (i := k) (by simpa using hkl) (by simpa using hk) hku' hi
      have hi' : i ∈ hd := by simpa using hih
      obtain ⟨hiun, o, ho, hafter⟩ := mem_ready.1 hi
      have hol : l[i]? = some o := by simpa using ho
      have hil : i < l.length := (List.getElem?_eq_some_iff.1 hol).1
      have hiun' := getD_both hiun
      have hmem : (i, o) ∈ pickOps l hd := pickOps_mem.2 ⟨hi', hol⟩
      obtain ⟨tmi, v, x, rq, g1, g2, g3, g4, g5, g6, g7⟩ := f3 (i, o) hmem
      simp only at g1 g2 g3 g4 g5 g6
      have g3 := g3 rfl
      have hopk := List.all_eq_true.1 hN o (List.mem_of_getElem? hol)
      have hbelow : ∀ j, reachB .any l.toArray l.length i j = true → listed.getD j false = true := fun j h =>
        reach_listed inv _ _ _ h (fun o' ho' e he hb => by
          have : o' = o := Option.some.inj (ho'.symm.trans ho)
          subst this
          exact hafter e he hb)
      have hclosed : ∀ q j, reachB .any l.toArray l.length q j = true → listed.getD q false = true → listed.getD j false = true := fun q j h hq =>
        reach_listed inv _ _ _ h (fun o' ho' e he hb => inv.closed q o' ho' hq e he hb)
      have hag : ∀ t ∈ o.looksAt l.toArray, (if ((pickOps l hd).any fun p => p.2.dst == some t && listed.getD p.1 false) = true then lkT tmF t else lkT tm0 t) = tmi t := fun t ht => by
        have hd1 := List.all_eq_true.1 hdep (i, o) hmem
        have hd2 := List.all_eq_true.1 hd1 t ht
        by_cases hw : ((pickOps l hd).any fun p => p.2.dst == some t && listed.getD p.1 false) = true
        · rw [if_pos hw]
          obtain ⟨q, hq, hq2⟩ := List.any_eq_true.1 hw
          simp only [Bool.and_eq_true, beq_iff_eq] at hq2
          have hd3 := List.all_eq_true.1 hd2 q hq
          simp only [Bool.or_eq_true, bne_iff_ne, ne_eq] at hd3
          rcases hd3 with h | h
          · exact (h hq2.1).elim
          · by_cases hlt2 : q.1 < i
            · exact (g4 t q hq hlt2 hq2.1).symm
            · rw [if_neg hlt2] at h
              simp only [Bool.and_eq_true, decide_eq_true_eq] at h
              have := hclosed _ _ h.2 hq2.2
              rw [hiun'] at this
              cases this
        · rw [if_neg hw]
          refine (g5 t (fun q hq hql hqt => hw (List.any_eq_true.2 ⟨q, hq, ?_⟩))).symm
          have hd3 := List.all_eq_true.1 hd2 q hq
          simp only [Bool.or_eq_true, bne_iff_ne, ne_eq] at hd3
          rcases hd3 with h | h
          · exact (h hqt).elim
          · rw [if_pos hql] at h
            have := hbelow _ h
            simp [hqt, this]
      have hst : ∀ n b, lkB st0 n = some b → sgC cs nx mbF st0 listed n = some b := fun n b hb => by
        unfold sgC
        by_cases hn : nx ≤ n
        · rw [hst0 n hn] at hb; cases hb
        · rw [if_neg hn]; exact hb
      have hrqs : ∀ p, rq = some p → sgC cs nx mbF st0 listed p.1 = some p.2 := fun p hp => by
        obtain ⟨j, hj, hpj⟩ := (rqOk_map g6 p.1).1 (by rw [hp]; rfl)
        have hcj := lkC_mem hj
        obtain ⟨hji, _, hr⟩ := hcs _ hcj
        simp only at hji hr
        unfold sgC
        rw [if_pos (by omega), hpj, Nat.add_sub_cancel_left, if_pos (hbelow j hr), if_neg, ← hpj]
        · exact g7 p hp
        · intro h
          obtain ⟨c, hc, h⟩ := List.any_eq_true.1 h
          simp only [Bool.and_eq_true, decide_eq_true_eq] at h
          have hc2' : c.2 = j := by omega
          have hci : c = (i, j) := by
            have hp2 := List.nodup_iff_pairwise_ne.1 hc3
            rw [List.pairwise_map, List.pairwise_iff_getElem] at hp2
            obtain ⟨a1, ha1, e1⟩ := List.getElem_of_mem hc
            obtain ⟨a2, ha2, e2⟩ := List.getElem_of_mem hcj
            rcases Nat.lt_trichotomy a1 a2 with h3 | h3 | h3
            · exact (hp2 a1 a2 ha1 ha2 h3 (by rw [e1, e2]; exact hc2')).elim
            · subst h3; rw [← e1, e2]
            · exact (hp2 a2 a1 ha2 ha1 h3 (by rw [e1, e2]; exact hc2'.symm)).elim
          rw [hci] at h
          simp only at h
          rw [hiun'] at h
          cases h.2
      obtain ⟨h1, h2⟩ := g1 _ _ _ E a hS hGT ⟨by omega, fun h => by rw [Nat.add_sub_cancel_left, hiun'] at h; cases h⟩ hst hrqs hag
      have inv2 := inv.set hi
      have hself : (listed.setIfInBounds i true).getD i false = true := by simp [hsz, hil]
      have hoth : ∀ j, j ≠ i → (listed.setIfInBounds i true).getD j false = listed.getD j false := fun j hj => getD_set_ne false (Ne.symm hj)
      have hT2 : ∀ t ∈ tail, (listed.setIfInBounds i true).getD t false = false := fun t ht => by
        rw [hoth t (fun e => by have := htl' t ht; rw [e] at this; rw [this] at hih; cases hih)]; exact hT t ht
      have hcnt2 : hd.countP (fun j => !(listed.setIfInBounds i true).getD j false) = F := by
        have := countP_set hnd' hi' (f := fun j => !listed.getD j false) (g := fun j => !(listed.setIfInBounds i true).getD j false) (by simp [hiun']) (by simp [hself]) (fun j hj => by rw [hoth j hj])
        omega
      -- nobody has taken what i makes
      have hnt : ∀ c ∈ cs, c.2 = i → listed.getD c.1 false = false := fun c hc e => by
        obtain ⟨_, _, hr⟩ := hcs c hc
        cases hq : listed.getD c.1 false with
        | false => rfl
        | true =>
          have := hclosed _ _ hr hq
          rw [e, hiun'] at this
          cases this
      have hσ2 : ∀ n, sgC cs nx mbF st0 (listed.setIfInBounds i true) n = if n = nx + i then x else if rq.map (·.1) = some n then none else sgC cs nx mbF st0 listed n := fun n => by
        by_cases hn : n = nx + i
        · subst hn
          rw [if_pos rfl]
          unfold sgC
          rw [if_pos (by omega), Nat.add_sub_cancel_left, if_pos hself, if_neg, g3]
          intro h
          obtain ⟨c, hc, h⟩ := List.any_eq_true.1 h
          simp only [Bool.and_eq_true, decide_eq_true_eq] at h
          have hci : c.2 = i := by omega
          have := (hcs c hc).1
          rw [hoth c.1 (by omega), hnt c hc hci] at h
          cases h.2
        · rw [if_neg hn]
          by_cases hrn : rq.map (·.1) = some n
          · rw [if_pos hrn]
            obtain ⟨j, hj, rfl⟩ := (rqOk_map g6 n).1 hrn
            unfold sgC
            rw [if_pos (by omega)]
            have : (cs.any fun c => decide (nx + j = nx + c.2) && (listed.setIfInBounds i true).getD c.1 false) = true := List.any_eq_true.2 ⟨(i, j), lkC_mem hj, by simp [hself]⟩
            rw [if_pos this]
            split <;> rfl
          · rw [if_neg hrn]
            unfold sgC
            by_cases hn2 : nx ≤ n
            · rw [if_pos hn2, if_pos hn2, hoth (n - nx) (by omega)]
              have : (cs.any fun c => decide (n = nx + c.2) && (listed.setIfInBounds i true).getD c.1 false) = (cs.any fun c => decide (n = nx + c.2) && listed.getD c.1 false) := by
                rw [Bool.eq_iff_iff, List.any_eq_true, List.any_eq_true]
                constructor
                · rintro ⟨c, hc, h⟩
                  simp only [Bool.and_eq_true, decide_eq_true_eq] at h
                  by_cases hci : c.1 = i
                  · refine (hrn ((rqOk_map g6 n).2 ⟨c.2, ?_, h.1⟩)).elim
                    exact lkC_of_mem hc2 (by rw [← hci]; cases c; exact hc)
                  · rw [hoth _ hci] at h
                    exact ⟨c, hc, by simp [h.1, h.2]⟩
                · rintro ⟨c, hc, h⟩
                  simp only [Bool.and_eq_true, decide_eq_true_eq] at h
                  exact ⟨c, hc, by simp only [Bool.and_eq_true, decide_eq_true_eq]; exact ⟨h.1, getD_set_true h.2⟩⟩
              rw [this]
            · rw [if_neg hn2, if_neg hn2]
      have hfr2 : ∀ n, (nx ≤ n ∧ ((listed.setIfInBounds i true).getD (n - nx) false = true → lkB mbF n = none)) → (nx ≤ n ∧ (listed.getD (n - nx) false = true → lkB mbF n = none)) ∧ (x.isSome = true → n ≠ nx + i) := fun n hn => by
        refine ⟨⟨hn.1, fun h => hn.2 (getD_set_true h)⟩, fun hx e => ?_⟩
        subst e
        have := hn.2 (by rw [Nat.add_sub_cancel_left]; exact hself)
        rw [g3] at this
        rw [this] at hx
        cases hx
      have htm2 : ∀ t, (if ((pickOps l hd).any fun p => p.2.dst == some t && (listed.setIfInBounds i true).getD p.1 false) = true then lkT tmF t else lkT tm0 t) = if o.dst = some t then v else (if ((pickOps l hd).any fun p => p.2.dst == some t && listed.getD p.1 false) = true then lkT tmF t else lkT tm0 t) := fun t => by
        by_cases hd1 : o.dst = some t
        · rw [if_pos hd1, if_pos (List.any_eq_true.2 ⟨(i, o), hmem, by simp [hd1, hself]⟩), g2 t hd1]
        · rw [if_neg hd1]
          have : ((pickOps l hd).any fun p => p.2.dst == some t && (listed.setIfInBounds i true).getD p.1 false) = ((pickOps l hd).any fun p => p.2.dst == some t && listed.getD p.1 false) := by
            rw [Bool.eq_iff_iff, List.any_eq_true, List.any_eq_true]
            constructor
            · rintro ⟨p, hp, h⟩
              simp only [Bool.and_eq_true, beq_iff_eq] at h
              have hpi : p.1 ≠ i := fun e => by
                have := (pickOps_mem.1 hp).2
                rw [e, hol] at this
                injection this with this
                rw [← this] at h
                exact hd1 h.1
              rw [hoth p.1 hpi] at h
              exact ⟨p, hp, by simp [h.1, h.2]⟩
            · rintro ⟨p, hp, h⟩
              simp only [Bool.and_eq_true, beq_iff_eq] at h
              exact ⟨p, hp, by simp [h.1, getD_set_true h.2]⟩
          rw [this]
      have hdN : ∀ t, o.dst = some t → t < B.N := fun t e => by
        have : (match o.dst with | some d => decide (d < B.N) | none => true) = true := by
          simp only [opOk, Bool.and_eq_true] at hopk; exact hopk.2
        rw [e] at this
        simpa using this
      unfold wpOpIn
      simp only [ho]
      cases hw : Region.wanted o (yielded l.toArray a.tmps) with
      | true =>
        rw [if_pos rfl]
        refine (h1 hw).wpIn ?_
        rintro u w' ⟨E', rfl, hS', hext, hdp, hv⟩
        exact ih _ E' _ inv2 hT2 hcnt2 (hS'.congr hσ2 hfr2) ((hGT.ext hext hdp).putF (fun t e => ⟨hv, hdN t e⟩) htm2)
      | false =>
        rw [if_neg (by simp)]
        obtain ⟨rfl, rfl, hv⟩ := h2 hw
        have hσn : ∀ n, (if n = nx + i then none else if (none : Option (Nat × Blk)).map (·.1) = some n then none else sgC cs nx mbF st0 listed n) = sgC cs nx mbF st0 listed n := fun n => by
          by_cases hn : n = nx + i
          · subst hn
            unfold sgC
            rw [if_pos rfl, if_pos (by omega), Nat.add_sub_cancel_left, hiun', if_neg (by simp)]
          · rw [if_neg hn, if_neg (by simp)]
        exact ⟨fun _ _ => trivial, ih _ E _ inv2 hT2 hcnt2 (hS.congr (fun n => (hσ2 n).trans (hσn n)) (fun n hn => (hfr2 n hn).1)) (hGT.putF (fun t e => ⟨hv, hdN t e⟩) htm2)⟩
/-- an append stays in the head -/
def isTC : Op → Bool
  | .call ⟨.builtin .append, _, _⟩ => false
  | op => isT op
def headC : Nat → List Oper → List Nat
  | _, [] => []
  | k, o :: l => match isTC o.op with
    | true => headC (k + 1) l
    | false => k :: headC (k + 1) l
def tailC : Nat → List Oper → List Nat
  | _, [] => []
  | k, o :: l => match isTC o.op with
    | true => k :: tailC (k + 1) l
    | false => tailC (k + 1) l
/-- the appends to what is made in the region -/
def whoMakes (t : Tmp) : Nat → List Oper → Option Nat
  | _, [] => none
  | k, o :: l => if o.dst = some t then some k else whoMakes t (k + 1) l
def takes (all : List Oper) : Nat → List Oper → List (Nat × Nat)
  | _, [] => []
  | k, o :: l => match o.op with
    | .call ⟨.builtin .append, asA, _⟩ => match asA.toList with
      | .tmp t :: _ => match whoMakes t 0 all with
        | some j => (k, j) :: takes all (k + 1) l
        | none => takes all (k + 1) l
      | _ => takes all (k + 1) l
    | _ => takes all (k + 1) l
theorem aw_regionC {id : Nat} {l : List Oper} {s : St} {Q : AQ} (hd tail : List Nat) (cs : List (Nat × Nat)) (hT : TabOk P T) (hm : P.follows .mixedOrders = true) (hl : (l.all (opOk B.N)) = true) (hok : drawOk l hd tail = true) (hck : takeOk l hd cs = true)
    (h : hwpC P T l.toArray s.st s.nx cs (pickOps l hd) s.tm [] (fun tm nb => rwp P B T l.toArray ((pickOps l tail).map (·.2)) ⟨tm, nb ++ s.st, s.nx + l.length⟩ (Q .normal))) : AW P B (.region id l.toArray true) Q ⟨⟩ s := fun E a hG => by
  have hops0 : ∀ o ∈ l.toArray.toList, opOk B.N o = true := fun o ho => List.all_eq_true.1 hl o (by simpa using ho)
  have hc : ((pickOps l hd).all fun p => p.2.op.operands.toList.all (constOk B.N)) = true := List.all_eq_true.2 fun p hp => by
    have := List.all_eq_true.1 hl p.2 (List.mem_of_getElem? (pickOps_mem.1 hp).2)
    simp only [opOk, Bool.and_eq_true] at this
    exact this.1
  obtain ⟨tmF, nbF, mbF, hK, hrun⟩ := hwpC_ok (B := B) hT hops0 _ _ _ [] hc h
  have hG' := gam_drew hG
  have hst0 : ∀ n, s.nx ≤ n → lkB s.st n = none := fun n hn => hG.1.none_of_fresh hn
  refine wpIn_region_any hm ?_
  have htail : ((pickOps l tail).map (·.2)).all (opOk B.N) = true := List.all_eq_true.2 fun o ho => by
    obtain ⟨p, hp, rfl⟩ := List.mem_map.1 ho
    exact List.all_eq_true.1 hl p.2 (List.mem_of_getElem? (pickOps_mem.1 hp).2)
  have := wpAny_headsC (Q := AQQ P B Q) hok hck hrun hl hst0 (fun E a hG => rwp_list hT hops0 _ _ _ htail hK (fun s' hs E a hG => ⟨E, s', rfl, hG, hs⟩) E a hG) hd.length (Array.replicate l.toArray.size false) ⟨E.η, E.F, { E.w with drawn := E.w.drawn + 1 }, E.dp⟩ a
    ⟨by simp, fun j oj _ hl => (by rw [getD_replicate_false] at hl; cases hl)⟩ (fun t _ => getD_replicate_false _ _) (by
      rw [List.countP_eq_length]; intro i _; rw [getD_replicate_false]; rfl)
    (hG'.1.congr (fun n => by
      unfold sgC
      rw [getD_replicate_false]
      by_cases hn : s.nx ≤ n
      · rw [if_pos hn, if_neg (by simp), hst0 n hn]
      · rw [if_neg hn]) (fun n hn => hn.1))
    ⟨fun t => by
      have : ((pickOps l hd).any fun p => p.2.dst == some t && (Array.replicate l.toArray.size false).getD p.1 false) = false := by
        rw [List.any_eq_false]; intro p _; rw [getD_replicate_false]; simp
      rw [this, if_neg (by simp)]
      exact hG'.2.tm t, hG'.2.defers, hG'.2.size⟩
  have hlen : hd.length + tail.length = l.length := by
    simp only [drawOk, Bool.and_eq_true, decide_eq_true_eq] at hok
    exact hok.2
  rw [hlen] at this
  simpa using this
/-- a region that draws its order, its appends in the head -/
theorem aw_drawnC {id : Nat} {ops : Array Oper} {s : St} {Q : AQ} (hT : TabOk P T) (hm : P.follows .mixedOrders = true) (hl : (ops.toList.all (opOk B.N)) = true)
    (hok : (drawOk ops.toList (headC 0 ops.toList) (tailC 0 ops.toList) && takeOk ops.toList (headC 0 ops.toList) (takes ops.toList 0 ops.toList)) = true)
    (h : hwpC P T ops s.st s.nx (takes ops.toList 0 ops.toList) (pickOps ops.toList (headC 0 ops.toList)) s.tm [] (fun tm nb => rwp P B T ops ((pickOps ops.toList (tailC 0 ops.toList)).map (·.2)) ⟨tm, nb ++ s.st, s.nx + ops.toList.length⟩ (Q .normal))) : AW P B (.region id ops true) Q ⟨⟩ s := by
  simp only [Bool.and_eq_true] at hok
  exact aw_regionC (l := ops.toList) _ _ _ hT hm hl hok.1 hok.2 h
end
end Go.Proofs.Ytncihbmehbiekaa

