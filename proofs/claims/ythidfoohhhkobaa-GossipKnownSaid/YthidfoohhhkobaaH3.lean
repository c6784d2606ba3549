import Derived.Test.YthidfoohhhkobaaH2
import Derived.StringKeys
import Derived.ChangeKeysEq
namespace Go.Proofs.Ythidfoohhhkobaa
set_option linter.unusedVariables false
set_option linter.unusedSimpArgs false
open Go.RowKit
section
variable {P : Program} {B : Base} {T : Tab}
def sgC (cs : List (Nat × Nat)) (nx : Nat) (mb st0 : List (Nat × Blk)) (listed : Array Bool) (n : Nat) : Option Blk :=
  if nx ≤ n then (if listed.getD (n - nx) false = true then (if (cs.any fun c => decide (n = nx + c.2) && listed.getD c.1 false) = true then none else lkB mb n) else none) else lkB st0 n
theorem wpAny_headsC {l : List Oper} {hd tail : List Nat} {cs : List (Nat × Nat)} {Q : Exit → Act → World → Prop} {tm0 tmF : List (Nat × V)} {st0 nbF mbF : List (Nat × Blk)} {nx : Nat} (hok : drawOk l hd tail = true) (hck : takeOk l hd cs = true) (hrun : HRunC P B l.toArray st0 nx cs tmF nbF mbF (pickOps l hd) tm0 [] []) (hN : (l.all (opOk B.N)) = true)
    (hst0 : ∀ n, nx ≤ n → lkB st0 n = none)
    (hQ : ∀ E a, Gam P B ⟨tmF, nbF ++ st0, nx + l.length⟩ E a → wpListIn (fen B.r) 0 P l.toArray Q ((pickOps l tail).map (·.2)) a E.w) :
    ∀ (F : Nat) (listed : Array Bool) (E : Env) (a : Act), GInv .any l.toArray listed → (∀ t ∈ tail, listed.getD t false = false) → hd.countP (fun i => !listed.getD i false) = F →
      GamS P B (sgC cs nx mbF st0 listed) (fun n => nx ≤ n ∧ (listed.getD (n - nx) false = true → lkB mbF n = none)) E →
      GamT B (fun t => if ((pickOps l hd).any fun p => p.2.dst == some t && listed.getD p.1 false) = true then lkT tmF t else lkT tm0 t) E a → wpAnyIn (fen B.r) 0 P .any l.toArray Q (F + tail.length) listed a E.w := by
  simp only [drawOk, Bool.and_eq_true] at hok
  obtain ⟨⟨⟨⟨⟨⟨⟨⟨⟨hsink, htl⟩, hpart⟩, hlt⟩, hnd⟩, hedge⟩, hincr⟩, hdep⟩, hseq⟩, _⟩ := hok
  simp only [takeOk, Bool.and_eq_true, decide_eq_true_eq] at hck
  obtain ⟨⟨hc1, hc2⟩, hc3⟩ := hck
  have hcs : ∀ c ∈ cs, c.2 < c.1 ∧ c.1 ∈ hd ∧ reachB .any l.toArray l.length c.1 c.2 = true := fun c hc => by
    have := List.all_eq_true.1 hc1 c hc
    simp only [Bool.and_eq_true, decide_eq_true_eq] at this
    exact ⟨this.1.1, by simpa using this.1.2, this.2⟩
  obtain ⟨f1, f2, f2a, f2b, f3⟩ := hrunC_facts (fun c hc => (hcs c hc).1) _ _ _ _ hincr (fun n q h => h) hrun
  have hnd' : hd.Nodup := by simpa using hnd
  have htl' : ∀ t ∈ tail, hd.contains t = false := fun t ht => by have := List.all_eq_true.1 htl t ht; simpa using this
  have hltl : ∀ i ∈ hd, i < l.length := fun i hi => by have := List.all_eq_true.1 hlt i hi; simpa using this
  intro F
  induction F with
  | zero =>
    intro listed E a inv hT hcnt hS hGT
    have hall : ∀ i ∈ hd, listed.getD i false = true := fun i hi => by
      have := List.countP_eq_zero.1 hcnt i hi
      simpa using this
    have hsz : listed.size = l.length := by rw [inv.size]; simp
    have hcan : listed = canonH l.length hd := by
      refine Array.ext_getElem? fun i => ?_
      have hcs := (foldl_canon hd (Array.replicate l.length false) i)
      have hcsz : (canonH l.length hd).size = l.length := by unfold canonH; rw [hcs.1]; simp
      by_cases hi : i < l.length
      · have e1 : listed[i]? = some (listed.getD i false) := by simp [Array.getD_eq_getD_getElem?, hsz, hi]
        have e2 : (canonH l.length hd)[i]? = some ((canonH l.length hd).getD i false) := by simp [Array.getD_eq_getD_getElem?, hcsz, hi]
        rw [e1, e2]
        congr 1
        unfold canonH
        rw [hcs.2]
        rw [getD_replicate_false]
        simp only [Array.size_replicate, Bool.false_or]
        by_cases hh : hd.contains i = true
        · rw [hh, hall i (by simpa using hh)]; simp [hi]
        · have := List.all_eq_true.1 hpart i (List.mem_range.2 hi)
          simp only [Bool.or_eq_true] at this
          rcases this with h | h
          · exact (hh h).elim
          · rw [hT i (by simpa using h)]; simp only [Bool.not_eq_true] at hh; rw [hh]; rfl
      · rw [Array.getElem?_eq_none (by omega), Array.getElem?_eq_none (by omega)]
    rw [Nat.zero_add]
    refine wpAnyIn_of_seqT tail listed a E.w (by rw [hcan]; exact hseq) (hQ E a ⟨hS.congr (fun n => ?_) (fun n hn => ?_), ⟨fun t => ?_, hGT.defers, hGT.size⟩⟩)
    · -- the blocks
      have hap : lkB (nbF ++ st0) n = match lkB nbF n with | some b => some b | none => lkB st0 n := by
        generalize nbF = nb
        induction nb with
        | nil => rfl
        | cons p nb ih =>
          obtain ⟨k, b⟩ := p
          simp only [List.cons_append, lkB]
          split
          · rfl
          · exact ih
      have hmb : ∀ m, (¬ ∃ p ∈ pickOps l hd, m = nx + p.1) → lkB mbF m = none := fun m hm => by
        rw [f2 m (fun p hp e => hm ⟨p, hp, e⟩)]; rfl
      show lkB (nbF ++ st0) n = _
      rw [hap]
      unfold sgC
      by_cases htk : ∃ p ∈ pickOps l hd, ∃ j, lkC cs p.1 = some j ∧ n = nx + j
      · have hno := f2a n htk (fun p hp q hq j hj e => by have := (hcs _ (lkC_mem hj)).1; simp only at this; omega)
        obtain ⟨p, hp, j, hj, rfl⟩ := htk
        rw [hno, if_pos (by omega)]
        have : (cs.any fun c => decide (nx + j = nx + c.2) && listed.getD c.1 false) = true :=
          List.any_eq_true.2 ⟨_, lkC_mem hj, by simp [hall p.1 (pickOps_mem.1 hp).1]⟩
        rw [if_pos this, hst0 _ (by omega), ite_self]
      · have hno := f2b n (fun p hp j hj e => htk ⟨p, hp, j, hj, e⟩) rfl
        rw [hno]
        by_cases hn : nx ≤ n
        · rw [if_pos hn]
          have hany : ¬ (cs.any fun c => decide (n = nx + c.2) && listed.getD c.1 false) = true := fun h => by
            obtain ⟨c, hc, h⟩ := List.any_eq_true.1 h
            simp only [Bool.and_eq_true, decide_eq_true_eq] at h
            have hch := (hcs c hc).2.1
            exact htk ⟨(c.1, getElem l c.1 (hltl _ hch)), pickOps_mem.2 ⟨hch, by simp [hltl _ hch]⟩, c.2, lkC_of_mem hc2 (by cases c; exact hc), h.1⟩
          rw [if_neg hany]
          by_cases hh : hd.contains (n - nx) = true
          · rw [if_pos (hall _ (by simpa using hh)), hst0 n hn]; cases lkB mbF n <;> rfl
          · have : lkB mbF n = none := hmb n (fun ⟨p, hp, e⟩ => hh (by
              have := (pickOps_mem.1 hp).1
              rw [e, Nat.add_sub_cancel_left]; simpa using this))
            rw [this, hst0 n hn]; simp
        · rw [if_neg hn]
          have : lkB mbF n = none := hmb n (fun ⟨p, hp, e⟩ => by omega)
          rw [this]
    · have hn' : nx + l.length ≤ n := hn
      refine ⟨by omega, fun h => ?_⟩
      rw [show listed.getD (n - nx) false = false by
        simp [Array.getD_eq_getD_getElem?, Array.getElem?_eq_none (show listed.size ≤ n - nx by omega)]] at h
      cases h
    · have := hGT.tm t
      show RV E (lkT tmF t) _
      by_cases hw : ((pickOps l hd).any fun p => p.2.dst == some t && listed.getD p.1 false) = true
      · rw [if_pos hw] at this; exact this
      · rw [if_neg hw] at this
        rw [f1 t (fun p hp e => hw (List.any_eq_true.2 ⟨p, hp, by simp [e, hall p.1 (pickOps_mem.1 hp).1]⟩))]
        exact this
  | succ F ih =>
    intro listed E a inv hT hcnt hS hGT
    have hsz : listed.size = l.length := by rw [inv.size]; simp
    rw [show F + 1 + tail.length = (F + tail.length) + 1 by omega]
    obtain ⟨k, hk, hku⟩ : ∃ k, k ∈ hd ∧ listed.getD k false = false := by
      have : 0 < hd.countP (fun i => !listed.getD i false) := by omega
      obtain ⟨k, h1, h2⟩ := List.countP_pos_iff.1 this
      exact ⟨k, h1, by simpa using h2⟩
    have hkl : k < l.length := hltl k hk
    have hku' : listed.getD k true = false := getD_in (by omega) hku
    refine ⟨fun hr => ?_, fun i hi => ?_⟩
    · obtain ⟨m, ⟨hm1, hm2⟩, hm3⟩ := exists_min (p := fun m => m < l.length ∧ listed.getD m false = false) ⟨k, hkl, hku⟩
      have : m ∈ Region.ready .any l.toArray listed := by
        refine mem_ready.2 ⟨getD_in (by omega) hm2, l[m], by simp [hm1], fun e he hb => ?_⟩
        have h1 := List.all_eq_true.1 hedge m (List.mem_range.2 hm1)
        rw [List.getElem?_eq_getElem hm1] at h1
        have h2 := List.all_eq_true.1 h1 e (by simpa using he)
        rw [hb] at h2
        simp at h2
        cases hc : listed.getD e.on false with
        | true => rfl
        | false => exact (hm3 e.on h2 ⟨by omega, hc⟩).elim
      rw [hr] at this
      cases this
    · have hih := sink_spec hsink inv (i := k) (by simpa using hkl) (by simpa using hk) hku' hi
      have hi' : i ∈ hd := by simpa using hih
      obtain ⟨hiun, o, ho, hafter⟩ := mem_ready.1 hi
      have hol : l[i]? = some o := by simpa using ho
      have hil : i < l.length := (List.getElem?_eq_some_iff.1 hol).1
      have hiun' := getD_both hiun
      have hmem : (i, o) ∈ pickOps l hd := pickOps_mem.2 ⟨hi', hol⟩
      obtain ⟨tmi, v, x, rq, g1, g2, g3, g4, g5, g6, g7⟩ := f3 (i, o) hmem
      simp only at g1 g2 g3 g4 g5 g6
      have g3 := g3 rfl
      have hopk := List.all_eq_true.1 hN o (List.mem_of_getElem? hol)
      have hbelow : ∀ j, reachB .any l.toArray l.length i j = true → listed.getD j false = true := fun j h =>
        reach_listed inv _ _ _ h (fun o' ho' e he hb => by
          have : o' = o := Option.some.inj (ho'.symm.trans ho)
          subst this
          exact hafter e he hb)
      have hclosed : ∀ q j, reachB .any l.toArray l.length q j = true → listed.getD q false = true → listed.getD j false = true := fun q j h hq =>
        reach_listed inv _ _ _ h (fun o' ho' e he hb => inv.closed q o' ho' hq e he hb)
      have hag : ∀ t ∈ o.looksAt l.toArray, (if ((pickOps l hd).any fun p => p.2.dst == some t && listed.getD p.1 false) = true then lkT tmF t else lkT tm0 t) = tmi t := fun t ht => by
        have hd1 := List.all_eq_true.1 hdep (i, o) hmem
        have hd2 := List.all_eq_true.1 hd1 t ht
        by_cases hw : ((pickOps l hd).any fun p => p.2.dst == some t && listed.getD p.1 false) = true
        · rw [if_pos hw]
          obtain ⟨q, hq, hq2⟩ := List.any_eq_true.1 hw
          simp only [Bool.and_eq_true, beq_iff_eq] at hq2
          have hd3 := List.all_eq_true.1 hd2 q hq
          simp only [Bool.or_eq_true, bne_iff_ne, ne_eq] at hd3
          rcases hd3 with h | h
          · exact (h hq2.1).elim
          · by_cases hlt2 : q.1 < i
            · exact (g4 t q hq hlt2 hq2.1).symm
            · rw [if_neg hlt2] at h
              simp only [Bool.and_eq_true, decide_eq_true_eq] at h
              have := hclosed _ _ h.2 hq2.2
              rw [hiun'] at this
              cases this
        · rw [if_neg hw]
          refine (g5 t (fun q hq hql hqt => hw (List.any_eq_true.2 ⟨q, hq, ?_⟩))).symm
          have hd3 := List.all_eq_true.1 hd2 q hq
          simp only [Bool.or_eq_true, bne_iff_ne, ne_eq] at hd3
          rcases hd3 with h | h
          · exact (h hqt).elim
          · rw [if_pos hql] at h
            have := hbelow _ h
            simp [hqt, this]
      have hst : ∀ n b, lkB st0 n = some b → sgC cs nx mbF st0 listed n = some b := fun n b hb => by
        unfold sgC
        by_cases hn : nx ≤ n
        · rw [hst0 n hn] at hb; cases hb
        · rw [if_neg hn]; exact hb
      have hrqs : ∀ p, rq = some p → sgC cs nx mbF st0 listed p.1 = some p.2 := fun p hp => by
        obtain ⟨j, hj, hpj⟩ := (rqOk_map g6 p.1).1 (by rw [hp]; rfl)
        have hcj := lkC_mem hj
        obtain ⟨hji, _, hr⟩ := hcs _ hcj
        simp only at hji hr
        unfold sgC
        rw [if_pos (by omega), hpj, Nat.add_sub_cancel_left, if_pos (hbelow j hr), if_neg, ← hpj]
        · exact g7 p hp
        · intro h
          obtain ⟨c, hc, h⟩ := List.any_eq_true.1 h
          simp only [Bool.and_eq_true, decide_eq_true_eq] at h
          have hc2' : c.2 = j := by omega
          have hci : c = (i, j) := by
            have hp2 := List.nodup_iff_pairwise_ne.1 hc3
            rw [List.pairwise_map, List.pairwise_iff_getElem] at hp2
            obtain ⟨a1, ha1, e1⟩ := List.getElem_of_mem hc
            obtain ⟨a2, ha2, e2⟩ := List.getElem_of_mem hcj
            rcases Nat.lt_trichotomy a1 a2 with h3 | h3 | h3
            · exact (hp2 a1 a2 ha1 ha2 h3 (by rw [e1, e2]; exact hc2')).elim
            · subst h3; rw [← e1, e2]
            · exact (hp2 a2 a1 ha2 ha1 h3 (by rw [e1, e2]; exact hc2'.symm)).elim
          rw [hci] at h
          simp only at h
          rw [hiun'] at h
          cases h.2
      obtain ⟨h1, h2⟩ := g1 _ _ _ E a hS hGT ⟨by omega, fun h => by rw [Nat.add_sub_cancel_left, hiun'] at h; cases h⟩ hst hrqs hag
      have inv2 := inv.set hi
      have hself : (listed.setIfInBounds i true).getD i false = true := by simp [hsz, hil]
      have hoth : ∀ j, j ≠ i → (listed.setIfInBounds i true).getD j false = listed.getD j false := fun j hj => getD_set_ne false (Ne.symm hj)
      have hT2 : ∀ t ∈ tail, (listed.setIfInBounds i true).getD t false = false := fun t ht => by
        rw [hoth t (fun e => by have := htl' t ht; rw [e] at this; rw [this] at hih; cases hih)]; exact hT t ht
      have hcnt2 : hd.countP (fun j => !(listed.setIfInBounds i true).getD j false) = F := by
        have := countP_set hnd' hi' (f := fun j => !listed.getD j false) (g := fun j => !(listed.setIfInBounds i true).getD j false) (by simp [hiun']) (by simp [hself]) (fun j hj => by rw [hoth j hj])
        omega
      -- nobody has taken what i makes
      have hnt : ∀ c ∈ cs, c.2 = i → listed.getD c.1 false = false := fun c hc e => by
        obtain ⟨_, _, hr⟩ := hcs c hc
        cases hq : listed.getD c.1 false with
        | false => rfl
        | true =>
          have := hclosed _ _ hr hq
          rw [e, hiun'] at this
          cases this
      have hσ2 : ∀ n, sgC cs nx mbF st0 (listed.setIfInBounds i true) n = if n = nx + i then x else if rq.map (·.1) = some n then none else sgC cs nx mbF st0 listed n := fun n => by
        by_cases hn : n = nx + i
        · subst hn
          rw [if_pos rfl]
          unfold sgC
          rw [if_pos (by omega), Nat.add_sub_cancel_left, if_pos hself, if_neg, g3]
          intro h
          obtain ⟨c, hc, h⟩ := List.any_eq_true.1 h
          simp only [Bool.and_eq_true, decide_eq_true_eq] at h
          have hci : c.2 = i := by omega
          have := (hcs c hc).1
          rw [hoth c.1 (by omega), hnt c hc hci] at h
          cases h.2
        · rw [if_neg hn]
          by_cases hrn : rq.map (·.1) = some n
          · rw [if_pos hrn]
            obtain ⟨j, hj, rfl⟩ := (rqOk_map g6 n).1 hrn
            unfold sgC
            rw [if_pos (by omega)]
            have : (cs.any fun c => decide (nx + j = nx + c.2) && (listed.setIfInBounds i true).getD c.1 false) = true := List.any_eq_true.2 ⟨(i, j), lkC_mem hj, by simp [hself]⟩
            rw [if_pos this]
            split <;> rfl
          · rw [if_neg hrn]
            unfold sgC
            by_cases hn2 : nx ≤ n
            · rw [if_pos hn2, if_pos hn2, hoth (n - nx) (by omega)]
              have : (cs.any fun c => decide (n = nx + c.2) && (listed.setIfInBounds i true).getD c.1 false) = (cs.any fun c => decide (n = nx + c.2) && listed.getD c.1 false) := by
                rw [Bool.eq_iff_iff, List.any_eq_true, List.any_eq_true]
                constructor
                · rintro ⟨c, hc, h⟩
                  simp only [Bool.and_eq_true, decide_eq_true_eq] at h
                  by_cases hci : c.1 = i
                  · refine (hrn ((rqOk_map g6 n).2 ⟨c.2, ?_, h.1⟩)).elim
                    exact lkC_of_mem hc2 (by rw [← hci]; cases c; exact hc)
                  · rw [hoth _ hci] at h
                    exact ⟨c, hc, by simp [h.1, h.2]⟩
                · rintro ⟨c, hc, h⟩
                  simp only [Bool.and_eq_true, decide_eq_true_eq] at h
                  exact ⟨c, hc, by simp only [Bool.and_eq_true, decide_eq_true_eq]; exact ⟨h.1, getD_set_true h.2⟩⟩
              rw [this]
            · rw [if_neg hn2, if_neg hn2]
      have hfr2 : ∀ n, (nx ≤ n ∧ ((listed.setIfInBounds i true).getD (n - nx) false = true → lkB mbF n = none)) → (nx ≤ n ∧ (listed.getD (n - nx) false = true → lkB mbF n = none)) ∧ (x.isSome = true → n ≠ nx + i) := fun n hn => by
        refine ⟨⟨hn.1, fun h => hn.2 (getD_set_true h)⟩, fun hx e => ?_⟩
        subst e
        have := hn.2 (by rw [Nat.add_sub_cancel_left]; exact hself)
        rw [g3] at this
        rw [this] at hx
        cases hx
      have htm2 : ∀ t, (if ((pickOps l hd).any fun p => p.2.dst == some t && (listed.setIfInBounds i true).getD p.1 false) = true then lkT tmF t else lkT tm0 t) = if o.dst = some t then v else (if ((pickOps l hd).any fun p => p.2.dst == some t && listed.getD p.1 false) = true then lkT tmF t else lkT tm0 t) := fun t => by
        by_cases hd1 : o.dst = some t
        · rw [if_pos hd1, if_pos (List.any_eq_true.2 ⟨(i, o), hmem, by simp [hd1, hself]⟩), g2 t hd1]
        · rw [if_neg hd1]
          have : ((pickOps l hd).any fun p => p.2.dst == some t && (listed.setIfInBounds i true).getD p.1 false) = ((pickOps l hd).any fun p => p.2.dst == some t && listed.getD p.1 false) := by
            rw [Bool.eq_iff_iff, List.any_eq_true, List.any_eq_true]
            constructor
            · rintro ⟨p, hp, h⟩
              simp only [Bool.and_eq_true, beq_iff_eq] at h
              have hpi : p.1 ≠ i := fun e => by
                have := (pickOps_mem.1 hp).2
                rw [e, hol] at this
                injection this with this
                rw [← this] at h
                exact hd1 h.1
              rw [hoth p.1 hpi] at h
              exact ⟨p, hp, by simp [h.1, h.2]⟩
            · rintro ⟨p, hp, h⟩
              simp only [Bool.and_eq_true, beq_iff_eq] at h
              exact ⟨p, hp, by simp [h.1, getD_set_true h.2]⟩
          rw [this]
      have hdN : ∀ t, o.dst = some t → t < B.N := fun t e => by
        have : (match o.dst with | some d => decide (d < B.N) | none => true) = true := by
          simp only [opOk, Bool.and_eq_true] at hopk; exact hopk.2
        rw [e] at this
        simpa using this
      unfold wpOpIn
      simp only [ho]
      cases hw : Region.wanted o (yielded l.toArray a.tmps) with
      | true =>
        rw [if_pos rfl]
        refine (h1 hw).wpIn ?_
        rintro u w' ⟨E', rfl, hS', hext, hdp, hv⟩
        exact ih _ E' _ inv2 hT2 hcnt2 (hS'.congr hσ2 hfr2) ((hGT.ext hext hdp).putF (fun t e => ⟨hv, hdN t e⟩) htm2)
      | false =>
        rw [if_neg (by simp)]
        obtain ⟨rfl, rfl, hv⟩ := h2 hw
        have hσn : ∀ n, (if n = nx + i then none else if (none : Option (Nat × Blk)).map (·.1) = some n then none else sgC cs nx mbF st0 listed n) = sgC cs nx mbF st0 listed n := fun n => by
          by_cases hn : n = nx + i
          · subst hn
            unfold sgC
            rw [if_pos rfl, if_pos (by omega), Nat.add_sub_cancel_left, hiun', if_neg (by simp)]
          · rw [if_neg hn, if_neg (by simp)]
        exact ⟨fun _ _ => trivial, ih _ E _ inv2 hT2 hcnt2 (hS.congr (fun n => (hσ2 n).trans (hσn n)) (fun n hn => (hfr2 n hn).1)) (hGT.putF (fun t e => ⟨hv, hdN t e⟩) htm2)⟩
def isTC : Op → Bool
  | .call ⟨.builtin .append, _, _⟩ => false
  | op => isT op
def headC : Nat → List Oper → List Nat
  | _, [] => []
  | k, o :: l => match isTC o.op with
    | true => headC (k + 1) l
    | false => k :: headC (k + 1) l
def tailC : Nat → List Oper → List Nat
  | _, [] => []
  | k, o :: l => match isTC o.op with
    | true => k :: tailC (k + 1) l
    | false => tailC (k + 1) l
def whoMakes (t : Tmp) : Nat → List Oper → Option Nat
  | _, [] => none
  | k, o :: l => if o.dst = some t then some k else whoMakes t (k + 1) l
def takes (all : List Oper) : Nat → List Oper → List (Nat × Nat)
  | _, [] => []
  | k, o :: l => match o.op with
    | .call ⟨.builtin .append, asA, _⟩ => match asA.toList with
      | .tmp t :: _ => match whoMakes t 0 all with
        | some j => (k, j) :: takes all (k + 1) l
        | none => takes all (k + 1) l
      | _ => takes all (k + 1) l
    | _ => takes all (k + 1) l
theorem aw_regionC {id : Nat} {l : List Oper} {s : St} {Q : AQ} (hd tail : List Nat) (cs : List (Nat × Nat)) (hT : TabOk P T) (hm : P.follows .mixedOrders = true) (hl : (l.all (opOk B.N)) = true) (hok : drawOk l hd tail = true) (hck : takeOk l hd cs = true)
    (h : hwpC P T l.toArray s.st s.nx cs (pickOps l hd) s.tm [] (fun tm nb => rwp P B T l.toArray ((pickOps l tail).map (·.2)) ⟨tm, nb ++ s.st, s.nx + l.length⟩ (Q .normal))) : AW P B (.region id l.toArray true) Q ⟨⟩ s := fun E a hG => by
  have hops0 : ∀ o ∈ l.toArray.toList, opOk B.N o = true := fun o ho => List.all_eq_true.1 hl o (by simpa using ho)
  have hc : ((pickOps l hd).all fun p => p.2.op.operands.toList.all (constOk B.N)) = true := List.all_eq_true.2 fun p hp => by
    have := List.all_eq_true.1 hl p.2 (List.mem_of_getElem? (pickOps_mem.1 hp).2)
    simp only [opOk, Bool.and_eq_true] at this
    exact this.1
  obtain ⟨tmF, nbF, mbF, hK, hrun⟩ := hwpC_ok (B := B) hT hops0 _ _ _ [] hc h
  have hG' := gam_drew hG
  have hst0 : ∀ n, s.nx ≤ n → lkB s.st n = none := fun n hn => hG.1.none_of_fresh hn
  refine wpIn_region_any hm ?_
  have htail : ((pickOps l tail).map (·.2)).all (opOk B.N) = true := List.all_eq_true.2 fun o ho => by
    obtain ⟨p, hp, rfl⟩ := List.mem_map.1 ho
    exact List.all_eq_true.1 hl p.2 (List.mem_of_getElem? (pickOps_mem.1 hp).2)
  have := wpAny_headsC (Q := AQQ P B Q) hok hck hrun hl hst0 (fun E a hG => rwp_list hT hops0 _ _ _ htail hK (fun s' hs E a hG => ⟨E, s', rfl, hG, hs⟩) E a hG) hd.length (Array.replicate l.toArray.size false) ⟨E.η, E.F, { E.w with drawn := E.w.drawn + 1 }, E.dp⟩ a
    ⟨by simp, fun j oj _ hl => (by rw [getD_replicate_false] at hl; cases hl)⟩ (fun t _ => getD_replicate_false _ _) (by
      rw [List.countP_eq_length]; intro i _; rw [getD_replicate_false]; rfl)
    (hG'.1.congr (fun n => by
      unfold sgC
      rw [getD_replicate_false]
      by_cases hn : s.nx ≤ n
      · rw [if_pos hn, if_neg (by simp), hst0 n hn]
      · rw [if_neg hn]) (fun n hn => hn.1))
    ⟨fun t => by
      have : ((pickOps l hd).any fun p => p.2.dst == some t && (Array.replicate l.toArray.size false).getD p.1 false) = false := by
        rw [List.any_eq_false]; intro p _; rw [getD_replicate_false]; simp
      rw [this, if_neg (by simp)]
      exact hG'.2.tm t, hG'.2.defers, hG'.2.size⟩
  have hlen : hd.length + tail.length = l.length := by
    simp only [drawOk, Bool.and_eq_true, decide_eq_true_eq] at hok
    exact hok.2
  rw [hlen] at this
  simpa using this
theorem aw_drawnC {id : Nat} {ops : Array Oper} {s : St} {Q : AQ} (hT : TabOk P T) (hm : P.follows .mixedOrders = true) (hl : (ops.toList.all (opOk B.N)) = true)
    (hok : (drawOk ops.toList (headC 0 ops.toList) (tailC 0 ops.toList) && takeOk ops.toList (headC 0 ops.toList) (takes ops.toList 0 ops.toList)) = true)
    (h : hwpC P T ops s.st s.nx (takes ops.toList 0 ops.toList) (pickOps ops.toList (headC 0 ops.toList)) s.tm [] (fun tm nb => rwp P B T ops ((pickOps ops.toList (tailC 0 ops.toList)).map (·.2)) ⟨tm, nb ++ s.st, s.nx + ops.toList.length⟩ (Q .normal))) : AW P B (.region id ops true) Q ⟨⟩ s := by
  simp only [Bool.and_eq_true] at hok
  exact aw_regionC (l := ops.toList) _ _ _ hT hm hl hok.1 hok.2 h
end
end Go.Proofs.Ythidfoohhhkobaa


namespace Go.Proofs.Ythidfoohhhkobaa
set_option linter.unusedVariables false
set_option linter.unusedSimpArgs false
open Go.RowKit
def frz1 (n : Nat) (v : V) : V → V
  | .mo m => if m = n then v else .mo m
  | x => x
def frz2 (n : Nat) (v : V) : V → V
  | .agg cs => .agg (cs.map (frz1 n v))
  | x => frz1 n v x
def frzS (n : Nat) (v : V) : List (Nat × V) → List (Nat × V)
  | [] => []
  | (t, x) :: l => (t, frz2 n v x) :: frzS n v l
def frzK (n : Nat) (v : V) : Blk → Blk
  | .cells t cs => .cells t (cs.map (frz1 n v))
  | x => x
def frzM (n : Nat) (v : V) : List (Nat × Blk) → List (Nat × Blk)
  | [] => []
  | (t, x) :: l => (t, frzK n v x) :: frzM n v l
section
variable {P : Program} {B : Base} {s : St} {E : Env} {n : Nat} {v : V}
theorem frz1_ok (h : ∀ u, RV E (.mo n) u → RV E v u) {x : V} {u : Value} (hx : RV E x u) : RV E (frz1 n v x) u := by
  cases x <;> try exact hx
  rename_i m
  unfold frz1
  by_cases hm : m = n
  · subst hm; simp only [if_true]; exact h u hx
  · simp only [hm, if_false]; exact hx
theorem frz1s_ok (h : ∀ u, RV E (.mo n) u → RV E v u) : ∀ {xs : List V} {us : List Value}, RVL E xs us → RVL E (xs.map (frz1 n v)) us
  | [], us, k => k
  | x :: xs, us, k => by
    simp only [List.map_cons, RVL] at k ⊢
    obtain ⟨u, r, h1, h2, h3⟩ := k
    exact ⟨u, r, h1, frz1_ok h h2, frz1s_ok h h3⟩
theorem frz2_ok (h : ∀ u, RV E (.mo n) u → RV E v u) {x : V} {u : Value} (hx : RV E x u) : RV E (frz2 n v x) u := by
  cases x <;> try exact frz1_ok h hx
  simp only [frz2, RV] at hx ⊢
  obtain ⟨us, h1, h2, h3⟩ := hx
  exact ⟨us, h1, frz1s_ok h h2, h3⟩
theorem lkT_frzS (t : Nat) : ∀ l : List (Nat × V), lkT (frzS n v l) t = frz2 n v (lkT l t) ∨ (lkT l t = .any ∧ lkT (frzS n v l) t = .any)
  | [] => .inr ⟨rfl, rfl⟩
  | (u, x) :: l => by
    simp only [frzS, lkT]
    by_cases h : t = u
    · rw [if_pos h, if_pos h]; exact .inl rfl
    · rw [if_neg h, if_neg h]; exact lkT_frzS t l
theorem lkB_frzM (t : Nat) : ∀ l : List (Nat × Blk), lkB (frzM n v l) t = (lkB l t).map (frzK n v)
  | [] => rfl
  | (u, x) :: l => by
    simp only [frzM, lkB]
    by_cases h : t = u
    · rw [if_pos h, if_pos h]; rfl
    · rw [if_neg h, if_neg h]; exact lkB_frzM t l
theorem gam_frzD {el sz : Nat} {d0V : List V} {d0 : List D} {esV : List (List V)} {es : List (List D)} (hn : lkB s.st n = some (.row el sz d0V esV)) (hes : esV = es.map dV) {a : Act} (hG : Gam P B s E a) :
    ∃ E', E'.w = E.w ∧ Gam P B ⟨frzS n (.ow n sz d0 es) s.tm, setB n (.tok el sz es.length) (frzM n (.ow n sz d0 es) s.st), s.nx⟩ E' a := by
  subst hes
  obtain ⟨v, us, h1, h2, h3, h4, h5, h6, h7⟩ := hG.1.st n _ hn
  rw [List.length_map] at h2 h6
  rw [flat_dV] at h3
  let F' : Ft := ⟨fun b o => E.F.c b o ∨ (hb v = some b ∧ o < es.length * sz), E.F.m⟩
  have hle : E.F.le F' := ⟨fun _ _ h => .inl h, fun _ h => h⟩
  let E' : Env := ⟨E.η, F', E.w, E.dp⟩
  have hext : Ext E E' := ⟨fun _ _ h => h, hle, Kp.refl _ _⟩
  have hlen : us.length = es.length * sz := h2.1
  have hrow : RD F' E.w (.sl sz d0 es) v := by
    obtain ⟨a', cap, rfl, hcap⟩ := own_form h2
    simp only [RD]
    refine ⟨a', cap, rfl, by omega, by omega, ?_⟩
    rcases h2.2 with ⟨e8, h0⟩ | ⟨g, cap', cur, e8, _⟩
    · have : es = [] := List.eq_nil_of_length_eq_zero (by omega)
      rw [this]; simp [RR]
    · cases e8
      have hd : RDL F' E.w es.flatten us := RVL.to_data (E := E') (RVL.mono hext _ _ h3)
      refine RR.of_cells hd (fun e he => ?_) h5 (fun j u hj => ⟨.inr ⟨rfl, ?_⟩, ?_⟩)
      · have := h4 (dV e) (List.mem_map_of_mem he)
        simpa [dV] using this
      · have := (List.getElem?_eq_some_iff.1 hj).1
        omega
      · have := h2.cells (g := g) rfl j u hj
        rw [Addr.add_any] at this
        simpa using this
  have hmo : ∀ u, RV E' (.mo n) u → RV E' (.ow n sz d0 es) u := fun u hu => by
    simp only [RV] at hu ⊢
    have : v = u := Option.some.inj (h1.symm.trans hu.1)
    exact ⟨hu.1, by rw [← this]; exact hrow⟩
  have new : ∀ b o, F'.c b o → E.F.c b o ∨ (hb v = some b ∧ o < es.length * sz) := fun _ _ h => h
  have old : ∀ m y, lkB (setB n (.tok el sz es.length) (frzM n (.ow n sz d0 es) s.st)) m = some y → ∃ y', lkB s.st m = some y' ∧ (m ≠ n → y = frzK n (.ow n sz d0 es) y') := fun m y hy => by
    rw [lkB_setB] at hy
    by_cases hm : m = n
    · exact ⟨_, by rw [hm]; exact hn, fun h => (h hm).elim⟩
    · rw [if_neg hm, lkB_frzM] at hy
      cases h : lkB s.st m with
      | none => rw [h] at hy; cases hy
      | some y' => rw [h] at hy; exact ⟨y', rfl, fun _ => (Option.some.inj hy).symm⟩
  refine ⟨E', rfl, ⟨hG.1.os, hG.1.tape, hG.1.output, hG.1.size, hG.1.old, Ft.le_trans hG.1.F0 hle, fun b o hc => ?_, hG.1.Fm, fun m y hy => ?_, fun i j p q b' v' u hij hpi hqj hvi huj hbi => ?_, hG.1.fresh, fun D hD => ?_⟩, fun t => ?_, hG.2.defers, hG.2.size⟩
  · rcases new b o hc with hc | ⟨hc, _⟩
    · exact hG.1.Fc b o hc
    · have hok := h7 b hc
      exact ⟨hok.1.elim (fun h => .inr (.inl h)) (fun h => .inr (.inr h)), hok.2.1⟩
  · show RBk P B E' m y
    by_cases hm : m = n
    · have hy' := hy
      rw [lkB_setB, if_pos hm] at hy'
      cases hy'
      rw [hm]
      refine ⟨v, us, h1, h2, fun b hb' => ?_⟩
      have hok := h7 b hb'
      exact ⟨hok.1, hok.2.1, hok.2.2.1, fun o ho => (new b o ho).elim (fun h => (hok.2.2.2 o h).elim) (fun h => h.2)⟩
    · obtain ⟨y', hy', hyy⟩ := old m y hy
      have hyy := hyy hm
      have hk : RBk P B E' m y' := (hG.1.st m y' hy').keep (fun _ h => h) hext (Nat.le_refl _) (fun _ _ _ _ _ => rfl) (fun v' b' p' hv' hb' hok' => ⟨hok'.1, hok'.2.1, hok'.2.2.1, fun o ho => (new b' o ho).elim (hok'.2.2.2 o) (fun h => (hG.1.dist n m _ y' b' v v' (Ne.symm hm) hn hy' h1 hv' h.1 hb').elim)⟩)
      rw [hyy]
      cases y' <;> try exact hk
      obtain ⟨b, us', k1, k2, k3, k4, k5⟩ := hk
      exact ⟨b, us', k1, k2, frz1s_ok hmo k3, k4, k5⟩
  · obtain ⟨p2, hp2, _⟩ := old i p hpi
    obtain ⟨q2, hq2, _⟩ := old j q hqj
    exact hG.1.dist i j p2 q2 b' v' u hij hp2 hq2 hvi huj hbi
  · obtain ⟨d1, d2, d3, d4⟩ := hG.1.dp D hD
    refine ⟨d1, d2, d3, fun o ho => (new D o ho).elim (d4 o) (fun h => ?_)⟩
    exact (hG.1.st n _ hn).nodp h1 h.1 d1
  · show RV E' (lkT (frzS n (.ow n sz d0 es) s.tm) t) _
    rcases lkT_frzS (n := n) (v := .ow n sz d0 es) t s.tm with h | ⟨_, h⟩
    · rw [h]; exact frz2_ok hmo (RV.mono hext _ _ (hG.2.tm t))
    · rw [h]; simp only [RV]
theorem aw_frzD (n : Nat) {el sz : Nat} {d0V : List V} (d0 : List D) {esV : List (List V)} (es : List (List D)) {c : Code} {Q : AQ} (hn : lkB s.st n = some (.row el sz d0V esV)) (hes : esV = es.map dV)
    (h : AW P B c Q ⟨⟩ ⟨frzS n (.ow n sz d0 es) s.tm, setB n (.tok el sz es.length) (frzM n (.ow n sz d0 es) s.st), s.nx⟩) : AW P B c Q ⟨⟩ s :=
  aw_weak (fun _ _ hG => gam_frzD hn hes hG) h
end
end Go.Proofs.Ythidfoohhhkobaa


namespace Go.Proofs.Ythidfoohhhkobaa
set_option linter.unusedVariables false
set_option linter.unusedSimpArgs false
open Go.RowKit
theorem frz_dV (n : Nat) (v : V) (l : List D) : (dV l).map (frz1 n v) = dV l := by
  unfold dV
  rw [List.map_map]
  exact List.map_congr_left fun x _ => rfl
section
variable {P : Program} {B : Base} {T : Tab}
structure StopAt (p : Prop) : Prop where
  go : p
theorem aw_stop {id : Nat} {ops : Array Oper} {b : Bool} {s : St} {Q : AQ} (h : StopAt (AW P B (.region id ops b) Q ⟨⟩ s)) : AW P B (.region id ops b) Q ⟨⟩ s := h.go
end
end Go.Proofs.Ythidfoohhhkobaa


namespace Go.Proofs.Ythidfoohhhkobaa
set_option linter.unusedVariables false
set_option linter.unusedSimpArgs false
open Go.RowKit
section
variable {P : Program} {B : Base} {T : Tab}
theorem gam_name {s : St} {E : Env} {a : Act} {v : Value} {y : Blk} (hv : hb v = none) (hG : Gam P B s E a) (hy : ∀ E' : Env, E'.η s.nx = some v → E'.F = E.F → E'.w = E.w → RBk P B E' s.nx y) :
    ∃ E', E'.w = E.w ∧ Ext E E' ∧ E'.η s.nx = some v ∧ Gam P B ⟨s.tm, (s.nx, y) :: s.st, s.nx + 1⟩ E' a := by
  let E' : Env := ⟨fun k => if k = s.nx then some v else E.η k, E.F, E.w, E.dp⟩
  have hs : HStep E E' s.nx := ⟨Below.refl _ _, fun k hk => by simp [E', hk], ⟨Ft.le_refl _, fun _ _ h => .inl h, fun _ h => .inl h⟩, rfl⟩
  have hext := hs.ext hG.1.lt (hG.1.fresh _ (Nat.le_refl _))
  have hη : E'.η s.nx = some v := by simp [E']
  have hσn : lkB s.st s.nx = none := hG.1.none_of_fresh (Nat.le_refl _)
  have hx : NewB P B E E' s.nx (some y) := ⟨v, hη, (fun b hb' => by rw [hv] at hb'; cases hb'), hy E' hη rfl rfl⟩
  exact ⟨E', rfl, hext, hη, hG.1.head (σ' := lkB ((s.nx, y) :: s.st)) (fr' := fun n => s.nx + 1 ≤ n) hs hx (Nat.le_refl _) (fun n => rfl) hσn (fun n hn' => ⟨by omega, fun _ => by omega⟩), hG.2.ext hext rfl⟩
end
end Go.Proofs.Ythidfoohhhkobaa


namespace Go.Proofs.Ythidfoohhhkobaa
set_option linter.unusedVariables false
set_option linter.unusedSimpArgs false
open Go.RowKit
section
variable {P : Program} {B : Base} {T : Tab}
end
end Go.Proofs.Ythidfoohhhkobaa


namespace Go.Proofs.Ythidfoohhhkobaa
set_option linter.unusedVariables false
set_option linter.unusedSimpArgs false
open Go.RowKit
section
variable {P : Program} {B : Base} {T : Tab}
end
end Go.Proofs.Ythidfoohhhkobaa


namespace Go.Proofs.Ythidfoohhhkobaa
set_option linter.unusedVariables false
set_option linter.unusedSimpArgs false
open Go.RowKit
section
variable {P : Program} {B : Base} {T : Tab}
end
end Go.Proofs.Ythidfoohhhkobaa


namespace Go.Proofs.Ythidfoohhhkobaa
set_option linter.unusedVariables false
set_option linter.unusedSimpArgs false
open Go.RowKit
section
variable {P : Program} {B : Base} {T : Tab}
end
end Go.Proofs.Ythidfoohhhkobaa


namespace Go.Proofs.Ythidfoohhhkobaa
set_option linter.unusedVariables false
set_option linter.unusedSimpArgs false
open Go.RowKit
section
variable {P : Program} {B : Base} {T : Tab}
theorem leaves_ofG {fn : Func} {R : Ending → World → Prop} {σ : Nat → Option Blk} {fr : Nat → Prop} {u : FrameMode} {X : List Deferred} (hu : u ≠ .run) : ∀ (ds : List Nat) (E : Env), GamS P B σ fr E → ds.Nodup → (∀ D ∈ ds, E.dp D) → ∀ tmps,
    ∃ E', GamS P B σ fr E' ∧ Ext E E' ∧ (∀ Y, E.dp Y → Y ∉ ds → E'.dp Y) ∧ (LeavesInM Fence.wide 0 P fn tmps R X u E'.w → LeavesInM Fence.wide 0 P fn tmps R (ds.map mark ++ X) u E.w)
  | [], E, h, _, _, tmps => ⟨E, h, Ext.refl E, fun _ h _ => h, fun h => h⟩
  | D :: ds, E, h, hn, hd, tmps => by
    obtain ⟨hn1, hn2⟩ := List.nodup_cons.1 hn
    obtain ⟨E1, e1, h1, x1⟩ := h.take (hd D (by simp))
    have hd1 : ∀ X ∈ ds, E1.dp X := fun X hX => by subst e1; exact ⟨hd X (by simp [hX]), fun e => hn1 (by rw [← e]; exact hX)⟩
    obtain ⟨E2, h2, x2, k2, r2⟩ := leaves_ofG (fn := fn) (R := R) (X := X) hu ds E1 h1 hn2 hd1 tmps
    refine ⟨E2, h2, x1.trans x2, fun X hX hXn => k2 X (by subst e1; exact ⟨hX, fun e => hXn (by simp [e])⟩) (fun e => hXn (by simp [e])), fun g => ?_⟩
    refine ⟨hu, .inl ⟨D, E1.w, rfl, ?_, r2 g⟩⟩
    subst e1
    exact run_takeDeferred (h.dp D (hd D (by simp))).1
def callP (P : Program) (B : Base) (f : FuncId) (vs : List V) (ch : List PanicEntry) (s : St) (K : St → Prop) (_ : TokS K) : Prop :=
  (P.funcs[f]?).any (fun fn => fn.name != "runtime.NumGoroutine" && fn.body.isSome) = true ∧ ∀ E a us, Gam P B s E a → RVL E vs us →
    Calls P f us.toArray E.w fun e w' => ∃ E' s', e = .panicked ch ∧ E'.w = w' ∧ Gam P B s' E' a ∧ K s'
def rwpP (P : Program) (B : Base) (T : Tab) (ops : Array Oper) (ch : List PanicEntry) : List Oper → St → (St → Prop) → Prop
  | [], _, _ => False
  | [o], s, K => match o.guard, o.op with
    | none, .call ⟨.value (.func f), asA, _⟩ => callP P B f (asA.toList.map (ev (lkT s.tm))) ch s K ⟨⟩
    | none, .call ⟨.value (.tmp t), asA, _⟩ => match lkT s.tm t with
      | .d (.c (.func (.func f) fst cap)) => (fst = #[] ∧ cap = #[]) ∧ callP P B f (asA.toList.map (ev (lkT s.tm))) ch s K ⟨⟩
      | _ => False
    | _, _ => False
  | o :: o2 :: rest, s, K => match o.guard, o.op with
    | none, .call ⟨.value (.func f), asA, _⟩ => callI P B f (asA.toList.map (ev (lkT s.tm))) o.dst s (fun s' => rwpP P B T ops ch (o2 :: rest) s' K) ⟨⟩
    | _, _ => sop P T ops o s (fun s' => rwpP P B T ops ch (o2 :: rest) s' K)
theorem panic_wpIn {r : Option Nat} {o : Oper} {a : Act} {w : World} {K : Act → World → Prop} {Q : Exit → Act → World → Prop} {f : FuncId} {args : Array Value} {ch : List PanicEntry} (hop : ∀ c, o.op ≠ .defer c) (hrun : (execOp a.eval o).run P w = .ok (.enter f args) w)
    (h : Calls P f args w fun e w' => e = .panicked ch ∧ Q (.panic ch) a w') : o.wpIn (fen r) 0 P a w K Q := by
  refine ⟨fun _ _ => trivial, ?_⟩
  have he : (Oper.semAt (fen r).round a.eval o).run P w = (execOp a.eval o).run P w := by
    show (Oper.semAt r a.eval o).run P w = _
    cases r with
    | none => rfl
    | some l => rw [Oper.semAt_some l _ o hop]
  rw [he, hrun, Oper.uponIn_enter]
  refine ⟨fun h => (by cases h), ?_⟩
  show CallsIn Fence.wide 0 P _ _ _ _
  refine callsIn_wide.2 (h.mono ?_)
  rintro e w'' ⟨rfl, h2⟩
  exact h2
theorem rwpP_list (hT : TabOk P T) {ops : Array Oper} (hops : ∀ o ∈ ops.toList, opOk B.N o = true) {ch : List PanicEntry} {Q : Exit → Act → World → Prop} : ∀ (l : List Oper) (s : St) (K : St → Prop), (l.all (opOk B.N)) = true → rwpP P B T ops ch l s K → (∀ s', K s' → ∀ E a, Gam P B s' E a → Q (.panic ch) a E.w) → ∀ E a, Gam P B s E a → wpListIn (fen B.r) 0 P ops Q l a E.w
  | [], s, K, _, h, _, E, a, hG => by simp only [rwpP] at h
  | [o], s, K, ho, h, hQ, E, a, hG => by
    simp only [List.all_cons, List.all_nil, Bool.and_true] at ho
    have hev : ∀ y ∈ o.op.operands, RV E (ev (lkT s.tm) y) (a.eval y) := fun y hy => ev_ok hG.2 y (opOk_mem ho y hy)
    have fin : ∀ (f : FuncId) (asA : Array Operand) (x : Operand) (ts : Array TypeId), o.guard = none → o.op = .call ⟨.value x, asA, ts⟩ → a.eval x = .func (.func f) #[] #[] → callP P B f (asA.toList.map (ev (lkT s.tm))) ch s K ⟨⟩ → wpListIn (fen B.r) 0 P ops Q [o] a E.w := by
      intro f asA x ts hg hop hx hc
      have hw : Region.wanted o (yielded ops a.tmps) = true := by simp [Region.wanted, hg]
      unfold wpListIn
      rw [if_pos hw]
      have hmap : asA.map a.eval = (asA.toList.map a.eval).toArray := by rw [← Array.toList_map, Array.toArray_toList]
      have hrun : (execOp a.eval o).run P E.w = .ok (.enter f (asA.toList.map a.eval).toArray) E.w := by
        rw [← hmap]
        simp [execOp, hop, resolve, hx, Deferred.ofValue, invoke, run_callFunc hc.1]
      refine panic_wpIn (ch := ch) (by rw [hop]; intro c h; cases h) hrun ((hc.2 E a _ hG (RVL.of_forall _ (fun x hx => hev x (by simp only [hop, Op.operands, Call.operands]; simp [Array.mem_toList_iff.1 hx])))).mono ?_)
      rintro e w' ⟨E', s', rfl, rfl, hG', hK⟩
      exact ⟨rfl, hQ s' hK E' a hG'⟩
    unfold rwpP at h
    split at h <;> try exact h.elim
    · rename_i f asA ts hg hop
      refine fin f asA (.func f) ts hg hop ?_ h
      have := hev (.func f) (by simp [hop, Op.operands, Call.operands])
      simpa [ev, RV, RD] using this
    · rename_i t asA ts hg hop
      split at h <;> try exact h.elim
      rename_i f fst cap ht
      obtain ⟨⟨rfl, rfl⟩, h⟩ := h
      refine fin f asA (.tmp t) ts hg hop ?_ h
      have := hev (.tmp t) (by simp [hop, Op.operands, Call.operands])
      rw [show ev (lkT s.tm) (.tmp t) = lkT s.tm t from rfl, ht] at this
      simpa only [RV, RD] using this
  | o :: o2 :: l, s, K, ho, h, hQ, E, a, hG => by
    rw [List.all_cons, Bool.and_eq_true] at ho
    have plain : sop P T ops o s (fun s' => rwpP P B T ops ch (o2 :: l) s' K) → wpListIn (fen B.r) 0 P ops Q (o :: o2 :: l) a E.w := fun h => by
      obtain ⟨s', hK, hd⟩ := sop_ok (B := B) hT hops ho.1 h
      have ih := rwpP_list hT hops (o2 :: l) s' K ho.2 hK hQ
      obtain ⟨h1, h2⟩ := hd E a hG
      unfold wpListIn
      cases hw : Region.wanted o (yielded ops a.tmps) with
      | true =>
        rw [if_pos rfl]
        refine (h1 hw).wpIn fun v w' ⟨E', e, hG'⟩ => ?_
        subst e
        exact ih E' _ hG'
      | false =>
        rw [if_neg (by simp)]
        exact ⟨fun _ _ => trivial, ih E _ (h2 hw)⟩
    have hev : ∀ E a, Gam P B s E a → ∀ y ∈ o.op.operands, RV E (ev (lkT s.tm) y) (a.eval y) := fun E a hG y hy => ev_ok hG.2 y (opOk_mem ho.1 y hy)
    unfold rwpP at h
    split at h
    · rename_i f asA ts hg hop
      have hw : Region.wanted o (yielded ops a.tmps) = true := by simp [Region.wanted, hg]
      unfold wpListIn
      rw [if_pos hw]
      exact slot_ok hop (fv := .d (.c (.func (.func f) #[] #[]))) (fun E a hG => hev E a hG (.func f) (by simp [hop, Op.operands, Call.operands])) (fun E a hG => RVL.of_forall _ (fun x hx => hev E a hG x (by simp only [hop, Op.operands, Call.operands]; simp [Array.mem_toList_iff.1 hx]))) ⟨⟨rfl, rfl⟩, h⟩ (fun s' E' a' hK hG' => rwpP_list hT hops (o2 :: l) s' K ho.2 hK hQ E' a' hG') E a hG
    · exact plain h
theorem aw_regionP {id : Nat} {ops : Array Oper} {s : St} {Q : AQ} (ch : List PanicEntry) (hT : TabOk P T) (hl : (ops.toList.all (opOk B.N)) = true) (h : rwpP P B T ops ch ops.toList s (Q (.panic ch))) : AW P B (.region id ops false) Q ⟨⟩ s := by
  have : AW P B (.region id ops.toList.toArray false) Q ⟨⟩ s := fun E a hG => wpIn_region_lit (rwpP_list (ops := ops.toList.toArray) hT (fun o ho => List.all_eq_true.1 hl o (by simpa using ho)) ops.toList s _ hl (by simpa using h) (fun s' hs E a hG => ⟨E, s', rfl, hG, hs⟩) E a hG)
  simpa using this
def SpecP (P : Program) (f : FuncId) (asA : List A) (ch : List PanicEntry) : Prop :=
  ∀ (F : Ft) (w : World) (us : List Value), F.lt w → RAL F w asA us → Calls P f us.toArray w fun e w' => e = .panicked ch ∧ Below w.heap.size w w'
theorem gam_below {s : St} {E : Env} {a : Act} {w' : World} (hb : Below E.w.heap.size E.w w') (hG : Gam P B s E a) : Gam P B s ⟨E.η, E.F, w', E.dp⟩ a := by
  have hs : HStep E ⟨E.η, E.F, w', E.dp⟩ s.nx := ⟨hb, fun _ _ => rfl, ⟨Ft.le_refl _, fun _ _ h => .inl h, fun _ h => .inl h⟩, rfl⟩
  have hext := hs.ext hG.1.lt (hG.1.fresh _ (Nat.le_refl _))
  have hσn : lkB s.st s.nx = none := hG.1.none_of_fresh (Nat.le_refl _)
  exact ⟨hG.1.head (σ' := lkB s.st) (x := none) hs rfl (Nat.le_refl _) (fun n => by split <;> simp_all) hσn (fun n hn' => ⟨hn', fun h => by cases h⟩), hG.2.ext hext rfl⟩
theorem callP_fz {f : FuncId} {vs : List V} {xs : List A} {ch : List PanicEntry} {s : St} {K : St → Prop} (hS : SpecP P f xs ch) (ha : FzA P (lkB s.st) vs xs)
    (hname : (P.funcs[f]?).any (fun fn => fn.name != "runtime.NumGoroutine" && fn.body.isSome) = true) (hK : K s) : callP P B f vs ch s K ⟨⟩ := by
  refine ⟨hname, fun E a us hG hv => (hS _ E.w us (fz_lt hG.1.st hG.1.lt) (fza_ok hG.1.st ha hv)).mono ?_⟩
  rintro e w' ⟨rfl, hb⟩
  exact ⟨_, s, rfl, rfl, gam_below hb hG, hK⟩
abbrev Base.M (w : World) (F : Ft) (N b : Nat) : Base := ⟨w, fun x => x = b, F, N, fun _ => .pointer (some ⟨b, 0, none⟩), none, fun _ => False, []⟩
end
end Go.Proofs.Ythidfoohhhkobaa


namespace Go.Proofs.Ythidfoohhhkobaa
set_option linter.unusedVariables false
set_option linter.unusedSimpArgs false
open Go.RowKit
def frzPV (n : Nat) (ds : List D) : V → V
  | .ptr m off => if m = n then .d (.pt (ds.drop off)) else .ptr m off
  | x => x
def frzP (n : Nat) (ds : List D) : List (Nat × V) → List (Nat × V)
  | [] => []
  | (t, x) :: l => (t, frzPV n ds x) :: frzP n ds l
theorem lkT_frzP (n : Nat) (ds : List D) (t : Nat) : ∀ l : List (Nat × V), lkT (frzP n ds l) t = frzPV n ds (lkT l t)
  | [] => rfl
  | (u, x) :: l => by
    simp only [frzP, lkT]
    by_cases h : t = u
    · rw [if_pos h, if_pos h]
    · rw [if_neg h, if_neg h]; exact lkT_frzP n ds t l
section
variable {P : Program} {B : Base} {s : St} {E : Env} {n : Nat}
theorem gam_frzC {t : TypeId} {cs : List V} {ds : List D} (hn : lkB s.st n = some (.cells t cs)) (hcs : cs = dV ds) {a : Act} (hG : Gam P B s E a) :
    ∃ E', E'.w = E.w ∧ Gam P B ⟨frzP n ds s.tm, delB n s.st, s.nx⟩ E' a := by
  subst hcs
  obtain ⟨b0, us, h1, h2, h3, h4, h5⟩ := hG.1.st n _ hn
  let F' : Ft := ⟨fun b o => E.F.c b o ∨ b = b0, E.F.m⟩
  have hle : E.F.le F' := ⟨fun _ _ h => .inl h, fun _ h => h⟩
  let E' : Env := ⟨E.η, F', E.w, E.dp⟩
  have hext : Ext E E' := ⟨fun _ _ h => h, hle, Kp.refl _ _⟩
  have hd : RDL F' E.w ds us := RVL.to_data (E := E') (RVL.mono hext _ _ h3)
  have hpt : ∀ off u, RV E' (.ptr n off) u → RV E' (.d (.pt (ds.drop off))) u := fun off u hu => by
    simp only [RV, RD] at hu ⊢
    obtain ⟨b, k1, k2⟩ := hu
    rw [show E'.η n = E.η n from rfl, h1] at k1
    cases k1
    refine ⟨b0, off, us.drop off, k2, hd.drop off, fun u hu => h4 u (List.mem_of_mem_drop hu), fun j u hj => ⟨.inr rfl, ?_⟩⟩
    rw [List.getElem?_drop] at hj
    show E.w.cell? _ = _
    simp [World.cell?, h2, hj]
  have new : ∀ b o, F'.c b o → E.F.c b o ∨ b = b0 := fun _ _ h => h
  have old : ∀ m y, lkB (delB n s.st) m = some y → m ≠ n ∧ lkB s.st m = some y := fun m y hy => by
    rw [lkB_delB] at hy
    by_cases hm : m = n
    · rw [if_pos hm] at hy; cases hy
    · rw [if_neg hm] at hy; exact ⟨hm, hy⟩
  refine ⟨E', rfl, ⟨hG.1.os, hG.1.tape, hG.1.output, hG.1.size, hG.1.old, Ft.le_trans hG.1.F0 hle, fun b o hc => ?_, hG.1.Fm, fun m y hy => ?_, fun i j p q b' v' u hij hpi hqj hvi huj hbi => ?_, hG.1.fresh, fun D hD => ?_⟩, fun t => ?_, hG.2.defers, hG.2.size⟩
  · rcases new b o hc with hc | hc
    · exact hG.1.Fc b o hc
    · subst hc
      exact ⟨h5.1.elim (fun h => .inr (.inl h)) (fun h => .inr (.inr h)), h5.2.1⟩
  · obtain ⟨hm, hy'⟩ := old m y hy
    exact (hG.1.st m y hy').keep (fun _ h => h) hext (Nat.le_refl _) (fun _ _ _ _ _ => rfl) (fun v' b' p' hv' hb' hok' => ⟨hok'.1, hok'.2.1, hok'.2.2.1, fun o ho => (new b' o ho).elim (hok'.2.2.2 o) (fun h => (hG.1.dist n m _ y b' (.pointer (some ⟨b0, 0, none⟩)) v' (Ne.symm hm) hn hy' h1 hv' (by rw [h]; rfl) hb').elim)⟩)
  · obtain ⟨_, hp'⟩ := old i p hpi
    obtain ⟨_, hq'⟩ := old j q hqj
    exact hG.1.dist i j p q b' v' u hij hp' hq' hvi huj hbi
  · obtain ⟨d1, d2, d3, d4⟩ := hG.1.dp D hD
    refine ⟨d1, d2, d3, fun o ho => (new D o ho).elim (d4 o) (fun h => ?_)⟩
    exact (hG.1.st n _ hn).nodp h1 (b := D) (by rw [h]; rfl) d1
  · show RV E' (lkT (frzP n ds s.tm) t) _
    rw [lkT_frzP]
    have hx := RV.mono hext _ _ (hG.2.tm t)
    generalize lkT s.tm t = x at hx
    cases x <;> try exact hx
    rename_i m off
    show RV E' (if m = n then .d (.pt (ds.drop off)) else .ptr m off) _
    by_cases hm : m = n
    · subst hm; rw [if_pos rfl]; exact hpt off _ hx
    · rw [if_neg hm]; exact hx
theorem aw_frzC (n : Nat) {t : TypeId} {cs : List V} (ds : List D) {c : Code} {Q : AQ} (hn : lkB s.st n = some (.cells t cs)) (hcs : cs = dV ds) (h : AW P B c Q ⟨⟩ ⟨frzP n ds s.tm, delB n s.st, s.nx⟩) : AW P B c Q ⟨⟩ s :=
  aw_weak (fun _ _ hG => gam_frzC hn hcs hG) h
def Un (P : Program) (B : Base) (c : Code) (Q : AQ) : Nat → St → Tk c Q → Prop
  | 0, _, _ => False
  | n + 1, s, _ => AW P B c (fun e s' => match e with | .normal => Un P B c Q n s' ⟨⟩ | e => Q e s') ⟨⟩ s
theorem un_step {c : Code} {Q : AQ} {n : Nat} (hn : 0 < n) (h : AW P B c (fun e s' => match e with | .normal => Un P B c Q (n - 1) s' ⟨⟩ | e => Q e s') ⟨⟩ s) : Un P B c Q n s ⟨⟩ := by
  cases n with
  | zero => exact absurd hn (Nat.lt_irrefl 0)
  | succ n => exact h
theorem aw_unroll (n : Nat) {c : Code} {Q : AQ} (h : Un P B c Q n s ⟨⟩) : AW P B (.loop c) Q ⟨⟩ s := by
  refine aw_loop (fun n s => Un P B c Q n s ⟨⟩) n h fun n s hI E a hG => ?_
  cases n with
  | zero => exact hI.elim
  | succ n =>
    refine Code.wpIn_mono ?_ (hI E a hG)
    rintro e a' w' ⟨E', s', h1, h2, hq⟩
    refine ⟨E', s', h1, h2, ?_⟩
    cases e with
    | normal => exact ⟨n, Nat.lt_succ_self n, hq⟩
    | _ => exact hq
end
end Go.Proofs.Ythidfoohhhkobaa


namespace Go.Proofs.Ythidfoohhhkobaa
set_option linter.unusedVariables false
set_option linter.unusedSimpArgs false
open Go.RowKit
section
variable {P : Program}
def EqT (P : Program) (t : TypeId) (ks : List IntKind) (D : Nat) : Prop :=
  (∃ k, P.underlying t = some (.int k) ∧ ks = [k] ∧ 1 ≤ D) ∨ ((∀ w, (isAgg t).run P w = .ok true w) ∧ (∀ w, (sizeOf t).run P w = .ok ks.length w) ∧
    ∀ d, D ≤ d → ∀ w a b, a.map (·.1) = ks → b.map (·.1) = ks → (Op.equalIn d t (.agg (kvals a).toArray) (.agg (kvals b).toArray)).run P w = .ok (a == b) w)
theorem kvals_app (a b : List (IntKind × Int)) : kvals (a ++ b) = kvals a ++ kvals b := by simp [kvals]
theorem beq_split {a1 a2 b1 b2 : List (IntKind × Int)} (h : a1.length = b1.length) : (a1 ++ a2 == b1 ++ b2) = ((a1 == b1) && (a2 == b2)) := by
  rw [Bool.eq_iff_iff]
  simp only [beq_iff_eq, Bool.and_eq_true]
  constructor
  · intro e; exact List.append_inj e h
  · rintro ⟨rfl, rfl⟩; rfl
theorem eqT_step {t : TypeId} {ks : List IntKind} {D d k : Nat} (hE : EqT P t ks D) (hd : D ≤ d) (w : World) (p q a b u v : List (IntKind × Int)) (hp : p.length = k) (hq : q.length = k) (ha : a.map (·.1) = ks) (hb : b.map (·.1) = ks) :
    ∃ x y, (part t (kvals (p ++ a ++ u)).toArray k).run P w = .ok x w ∧ (part t (kvals (q ++ b ++ v)).toArray k).run P w = .ok y w ∧ (Op.equalIn d t x y).run P w = .ok (a == b) w := by
  have hla : a.length = ks.length := by simpa using congrArg List.length ha
  have hlb : b.length = ks.length := by simpa using congrArg List.length hb
  rcases hE with ⟨kk, hu, rfl, hD⟩ | ⟨hagg, hsz, hE⟩
  · obtain ⟨⟨ka, na⟩, rfl⟩ : ∃ c, a = [c] := by match a, hla with | [c], _ => exact ⟨c, rfl⟩
    obtain ⟨⟨kb, nb⟩, rfl⟩ : ∃ c, b = [c] := by match b, hlb with | [c], _ => exact ⟨c, rfl⟩
    have ha : kk = ka := by simpa using ha.symm
    have hb : kk = kb := by simpa using hb.symm
    subst ha; subst hb
    have pt : ∀ (p u : List (IntKind × Int)) (n : Int), p.length = k → (part t (kvals (p ++ [(kk, n)] ++ u)).toArray k).run P w = .ok (.int kk n) w := fun p u n hp => by
      have : (kvals (p ++ [(kk, n)] ++ u)).toArray[k]? = some (.int kk n) := by rw [← hp]; simp [kvals]
      unfold part
      simp only [Sem.run_bind, isAgg, run_underlying hu, Result.andThen_ok, Sem.run_pure, Bool.false_eq_true, if_false, this]
    obtain ⟨d', rfl⟩ : ∃ d', d = d' + 1 := ⟨d - 1, by omega⟩
    refine ⟨_, _, pt p u na hp, pt q v nb hq, ?_⟩
    rw [run_equalIn_int w d' t kk kk na nb hu]
    congr 1
    rw [Bool.eq_iff_iff]
    simp
  · have pt : ∀ (p a u : List (IntKind × Int)), p.length = k → a.length = ks.length → (part t (kvals (p ++ a ++ u)).toArray k).run P w = .ok (.agg (kvals a).toArray) w := fun p a u hp ha => by
      unfold part
      simp only [Sem.run_bind, hagg, Result.andThen_ok, if_true, hsz, Sem.run_pure]
      congr 2
      apply Array.ext'
      simp only [Array.toList_extract, List.extract_eq_take_drop, kvals_app]
      have h1 : (kvals p).length = k := by simp [kvals, hp]
      have h2 : (kvals a).length = ks.length := by simp [kvals, ha]
      rw [List.append_assoc, ← h1, List.drop_left, show (kvals p).length + ks.length - (kvals p).length = (kvals a).length by omega, List.take_left]
    exact ⟨_, _, pt p a u hp hla, pt q b v hq hlb, hE d hd w a b ha hb⟩
def FieldsK (P : Program) (D : Nat) : Nat → List Field → List (List IntKind) → Prop
  | _, [], [] => True
  | k, f :: fs, ks :: kss => (f.offset = k ∧ f.name ≠ "_" ∧ EqT P f.type ks D) ∧ FieldsK P D (k + ks.length) fs kss
  | _, _, _ => False
theorem run_eqFieldsK {D d : Nat} (hd : D ≤ d) (w : World) : ∀ (fs : List Field) (kss : List (List IntKind)) (k : Nat) (p q a b : List (IntKind × Int)), FieldsK P D k fs kss → p.length = k → q.length = k → a.map (·.1) = kss.flatten → b.map (·.1) = kss.flatten →
    (Op.eqFields d (kvals (p ++ a)).toArray (kvals (q ++ b)).toArray fs).run P w = .ok (a == b) w
  | [], [], k, p, q, a, b, _, _, _, ha, hb => by
    simp at ha hb
    subst ha; subst hb
    simp [Op.eqFields]
  | f :: fs, ks :: kss, k, p, q, a, b, h, hp, hq, ha, hb => by
    obtain ⟨⟨h1, h2, h3⟩, h4⟩ := h
    have split : ∀ a : List (IntKind × Int), a.map (·.1) = (ks :: kss).flatten → ∃ a1 a2, a = a1 ++ a2 ∧ a1.map (·.1) = ks ∧ a2.map (·.1) = kss.flatten := fun a ha => by
      refine ⟨a.take ks.length, a.drop ks.length, (List.take_append_drop _ _).symm, ?_, ?_⟩
      · rw [List.map_take, ha, List.flatten_cons, List.take_left]
      · rw [List.map_drop, ha, List.flatten_cons, List.drop_left]
    obtain ⟨a1, a2, rfl, ha1, ha2⟩ := split a ha
    obtain ⟨b1, b2, rfl, hb1, hb2⟩ := split b hb
    have hla : a1.length = ks.length := by simpa using congrArg List.length ha1
    have hlb : b1.length = ks.length := by simpa using congrArg List.length hb1
    obtain ⟨x, y, e1, e2, e3⟩ := eqT_step h3 hd w p q a1 b1 a2 b2 hp hq ha1 hb1
    rw [List.append_assoc] at e1 e2
    have ih := run_eqFieldsK hd w fs kss (k + ks.length) (p ++ a1) (q ++ b1) a2 b2 h4 (by simp [hp, hla]) (by simp [hq, hlb]) ha2 hb2
    simp only [List.append_assoc] at ih
    simp only [Op.eqFields, h2, ne_eq, not_false_eq_true, if_true, Sem.run_bind, h1, e1, e2, Result.andThen_ok, e3, beq_split (hla.trans hlb.symm)]
    cases hc : (a1 == b1)
    · simp
    · simpa using ih
  | [], _ :: _, _, _, _, _, _, h, _, _, _, _ => h.elim
  | _ :: _, [], _, _, _, _, _, h, _, _, _, _ => h.elim
theorem eqT_struct {t : TypeId} {D : Nat} {kss : List (List IntKind)} {n : Nat} (ht : P.underlying t = some (.struct (P.fieldsOf t))) (hp : P.stoodInHeld t = false) (hsz : (P.info? t).map (·.size) = some n) (hn : n = kss.flatten.length) (hF : FieldsK P D 0 (P.fieldsOf t).toList kss) : EqT P t kss.flatten (D + 1) := by
  refine .inr ⟨fun w => by unfold Go.isAgg; rw [Sem.run_bind, run_underlying ht w]; rfl, fun w => ?_, fun d hd w a b ha hb => ?_⟩
  · cases hi : P.info? t with
    | none => rw [hi] at hsz; cases hsz
    | some j => rw [hi] at hsz; simp at hsz; simp [Go.sizeOf, typeInfo, hi, hsz, hn]
  · obtain ⟨d', rfl⟩ : ∃ d', d = d' + 1 := ⟨d - 1, by omega⟩
    rw [run_equalIn_struct w d' t _ _ ht hp]
    exact run_eqFieldsK (by omega) w _ kss 0 [] [] a b hF rfl rfl ha hb
theorem run_eqItemsK {e : TypeId} {kk : IntKind} (he : P.underlying e = some (.int kk)) (d : Nat) (w : World) : ∀ (n k : Nat) (p q a b : List (IntKind × Int)), p.length = k → q.length = k → a.map (·.1) = List.replicate n kk → b.map (·.1) = List.replicate n kk →
    (Op.eqItems (d + 1) e 1 (kvals (p ++ a)).toArray (kvals (q ++ b)).toArray (List.range' k n)).run P w = .ok (a == b) w
  | 0, k, p, q, a, b, _, _, ha, hb => by
    simp at ha hb
    subst ha; subst hb
    simp [Op.eqItems]
  | n + 1, k, p, q, a, b, hp, hq, ha, hb => by
    have split : ∀ a : List (IntKind × Int), a.map (·.1) = List.replicate (n + 1) kk → ∃ c a2, a = c :: a2 ∧ [c].map (·.1) = [kk] ∧ a2.map (·.1) = List.replicate n kk := fun a ha => by
      cases a with
      | nil => simp at ha
      | cons c a2 => rw [List.map_cons, List.replicate_succ, List.cons.injEq] at ha; exact ⟨c, a2, rfl, by simp [ha.1], ha.2⟩
    obtain ⟨a1, a2, rfl, ha1, ha2⟩ := split a ha
    obtain ⟨b1, b2, rfl, hb1, hb2⟩ := split b hb
    obtain ⟨x, y, e1, e2, e3⟩ := eqT_step (P := P) (D := 1) (d := d + 1) (.inl ⟨kk, he, rfl, Nat.le_refl _⟩) (by omega) w p q [a1] [b1] a2 b2 hp hq ha1 hb1
    have ih := run_eqItemsK he d w n (k + 1) (p ++ [a1]) (q ++ [b1]) a2 b2 (by simp [hp]) (by simp [hq]) ha2 hb2
    simp only [List.append_assoc, List.cons_append, List.nil_append] at ih e1 e2
    simp only [List.range'_succ, Op.eqItems, Sem.run_bind, Nat.mul_one, e1, e2, Result.andThen_ok, e3]
    have hbs := beq_split (a1 := [a1]) (a2 := a2) (b1 := [b1]) (b2 := b2) rfl
    simp only [List.cons_append, List.nil_append] at hbs
    rw [hbs]
    cases hc : ([a1] == [b1])
    · simp
    · simpa using ih
theorem eqT_arr {t e : TypeId} {kk : IntKind} {n : Nat} {i : TypeInfo} (ht : P.underlying t = some (.array n e)) (he : P.underlying e = some (.int kk)) (hi : P.info? e = some i) (hc : P.cellsOf e = 1) (hsz : (P.info? t).map (·.size) = some n) : EqT P t (List.replicate n kk) 2 := by
  refine .inr ⟨fun w => by unfold Go.isAgg; rw [Sem.run_bind, run_underlying ht w]; rfl, fun w => ?_, fun d hd w a b ha hb => ?_⟩
  · cases hi : P.info? t with
    | none => rw [hi] at hsz; cases hsz
    | some j => rw [hi] at hsz; simp at hsz; simp [Go.sizeOf, typeInfo, hi, hsz]
  · obtain ⟨d', rfl⟩ : ∃ d', d = d' + 2 := ⟨d - 2, by omega⟩
    rw [run_equalIn_array w (d' + 1) _ _ ht hi, hc, List.range_eq_range']
    exact run_eqItemsK he d' w n 0 [] [] a b rfl rfl ha hb
theorem EqT.up {t : TypeId} {ks : List IntKind} {D D' : Nat} (hD : D ≤ D') (h : EqT P t ks D) : EqT P t ks D' := by
  rcases h with ⟨k, h1, h2, h3⟩ | ⟨h1, h2, h3⟩
  · exact .inl ⟨k, h1, h2, by omega⟩
  · exact .inr ⟨h1, h2, fun d hd => h3 d (by omega)⟩
theorem eqK_of {t : TypeId} {ks : List IntKind} {D : Nat} (hE : EqT P t ks D) (hD : D ≤ 10000) (ha : ∀ w, (isAgg t).run P w = .ok true w) (hm : P.eqGuardType P.depth t = false) : EqKInts P t ks := by
  intro w x y a b ha' hb' op hop
  have he : (Op.equalIn 10000 t (.agg (kvals a).toArray) (.agg (kvals b).toArray)).run P w = .ok (a == b) w := by
    rcases hE with ⟨k, h1, h2, _⟩ | ⟨_, _, h3⟩
    · have := ha w
      unfold Go.isAgg at this
      rw [Sem.run_bind, run_underlying h1 w] at this
      simp at this
    · exact h3 10000 hD w a b ha' hb'
  rcases hop with rfl | rfl
  · simp only [Sem.run_bind, run_eqGuard_agg w _ t x y _ _ hm, Result.andThen_ok, run_eql_struct, he]
    rfl
  · simp only [Sem.run_bind, run_eqGuard_agg w _ t x y _ _ hm, Result.andThen_ok, run_neq_struct, he]
    rfl
def fieldsB (tab : List (TypeId × List IntKind)) : Nat → List Field → List (List IntKind) → Bool
  | _, [], [] => true
  | k, f :: fs, ks :: kss => f.offset == k && f.name != "_" && tab.any (fun p => decide (p.1 = f.type ∧ p.2 = ks)) && fieldsB tab (k + ks.length) fs kss
  | _, _, _ => false
theorem fieldsK_of {tab : List (TypeId × List IntKind)} {D : Nat} (htab : ∀ p ∈ tab, EqT P p.1 p.2 D) : ∀ (fs : List Field) (kss : List (List IntKind)) (k : Nat), fieldsB tab k fs kss = true → FieldsK P D k fs kss
  | [], [], _, _ => trivial
  | f :: fs, ks :: kss, k, h => by
    simp only [fieldsB, Bool.and_eq_true] at h
    obtain ⟨⟨⟨h1, h2⟩, h3⟩, h4⟩ := h
    obtain ⟨p, hp, hq⟩ := List.any_eq_true.1 h3
    have hq := of_decide_eq_true hq
    refine ⟨⟨by simpa using h1, by simpa using h2, ?_⟩, fieldsK_of htab fs kss _ h4⟩
    rw [← hq.1, ← hq.2]
    exact htab p hp
  | [], _ :: _, _, h => by simp [fieldsB] at h
  | _ :: _, [], _, h => by simp [fieldsB] at h
theorem eqI_of {t : TypeId} {n : Nat} (h : EqKInts P t (List.replicate n .i64)) : EqInts P t n := by
  intro w x y a b ha hb op hop
  have key : ∀ a : List Int, a.map (Value.int .i64) = kvals (a.map fun n => (.i64, n)) := fun a => by simp [kvals]
  have kk : ∀ a : List Int, a.length = n → (a.map fun n => (IntKind.i64, n)).map (·.1) = List.replicate n .i64 := fun a h => List.eq_replicate_iff.2 ⟨by simp [h], by simp⟩
  have hb' : ((a.map fun n => (IntKind.i64, n)) == (b.map fun n => (IntKind.i64, n))) = (a == b) := by
    rw [Bool.eq_iff_iff]
    simp only [beq_iff_eq]
    exact List.map_inj_right (fun x y e => by simpa using e)
  rw [key a, key b, ← hb']
  exact h w x y _ _ (kk a ha) (kk b hb) op hop
end
end Go.Proofs.Ythidfoohhhkobaa

