import Derived.Test.YtfmefdeldgmhpaaRO9
namespace Go.Proofs.Ytfmefdeldgmhpaa
set_option linter.unusedVariables false
set_option linter.unusedSimpArgs false
open Go.RowKit
/-- a written row that is written no more, wherever it is held -/
def frz1 (n : Nat) (v : V) : V → V
  | .mo m => if m = n then v else .mo m
  | x => x
def frz2 (n : Nat) (v : V) : V → V
  | .agg cs => .agg (cs.map (frz1 n v))
  | x => frz1 n v x
def frzS (n : Nat) (v : V) : List (Nat × V) → List (Nat × V)
  | [] => []
  | (t, x) :: l => (t, frz2 n v x) :: frzS n v l
def frzK (n : Nat) (v : V) : Blk → Blk
  | .cells t cs => .cells t (cs.map (frz1 n v))
  | x => x
def frzM (n : Nat) (v : V) : List (Nat × Blk) → List (Nat × Blk)
  | [] => []
  | (t, x) :: l => (t, frzK n v x) :: frzM n v l
section
variable {P : Program} {B : Base} {s : St} {E : Env} {n : Nat} {v : V}
theorem frz1_ok (h : ∀ u, RV E (.mo n) u → RV E v u) {x : V} {u : Value} (hx : RV E x u) : RV E (frz1 n v x) u := by
  cases x <;> try exact hx
  rename_i m
  unfold frz1
  by_cases hm : m = n
  · subst hm; simp only [if_true]; exact h u hx
  · simp only [hm, if_false]; exact hx
theorem frz1s_ok (h : ∀ u, RV E (.mo n) u → RV E v u) : ∀ {xs : List V} {us : List Value}, RVL E xs us → RVL E (xs.map (frz1 n v)) us
  | [], us, k => k
  | x :: xs, us, k => by
    simp only [List.map_cons, RVL] at k ⊢
    obtain ⟨u, r, h1, h2, h3⟩ := k
    exact ⟨u, r, h1, frz1_ok h h2, frz1s_ok h h3⟩
theorem frz2_ok (h : ∀ u, RV E (.mo n) u → RV E v u) {x : V} {u : Value} (hx : RV E x u) : RV E (frz2 n v x) u := by
  cases x <;> try exact frz1_ok h hx
  simp only [frz2, RV] at hx ⊢
  obtain ⟨us, h1, h2, h3⟩ := hx
  exact ⟨us, h1, frz1s_ok h h2, h3⟩
theorem lkT_frzS (t : Nat) : ∀ l : List (Nat × V), lkT (frzS n v l) t = frz2 n v (lkT l t) ∨ (lkT l t = .any ∧ lkT (frzS n v l) t = .any)
  | [] => .inr ⟨rfl, rfl⟩
  | (u, x) :: l => by
    simp only [frzS, lkT]
    by_cases h : t = u
    · rw [if_pos h, if_pos h]; exact .inl rfl
    · rw [if_neg h, if_neg h]; exact lkT_frzS t l
theorem lkB_frzM (t : Nat) : ∀ l : List (Nat × Blk), lkB (frzM n v l) t = (lkB l t).map (frzK n v)
  | [] => rfl
  | (u, x) :: l => by
    simp only [frzM, lkB]
    by_cases h : t = u
    · rw [if_pos h, if_pos h]; rfl
    · rw [if_neg h, if_neg h]; exact lkB_frzM t l
theorem gam_frzD {el sz : Nat} {d0V : List V} {d0 : List D} {esV : List (List V)} {es : List (List D)} (hn : lkB s.st n = some (.row el sz d0V esV)) (hes : esV = es.map dV) {a : Act} (hG : Gam P B s E a) :
    ∃ E', E'.w = E.w ∧ Gam P B ⟨frzS n (.ow n sz d0 es) s.tm, setB n (.tok el sz es.length) (frzM n (.ow n sz d0 es) s.st), s.nx⟩ E' a := by
  subst hes
  obtain ⟨v, us, h1, h2, h3, h4, h5, h6, h7⟩ := hG.1.st n _ hn
  rw [List.length_map] at h2 h6
  rw [flat_dV] at h3
  let F' : Ft := ⟨fun b o => E.F.c b o ∨ (hb v = some b ∧ o < es.length * sz), E.F.m⟩
  have hle : E.F.le F' := ⟨fun _ _ h => .inl h, fun _ h => h⟩
  let E' : Env := ⟨E.η, F', E.w, E.dp⟩
  have hext : Ext E E' := ⟨fun _ _ h => h, hle, Kp.refl _ _⟩
  have hlen : us.length = es.length * sz := h2.1
  have hrow : RD F' E.w (.sl sz d0 es) v := by
    obtain ⟨a', cap, rfl, hcap⟩ := own_form h2
    simp only [RD]
    refine ⟨a', cap, rfl, by omega, by omega, ?_⟩
    rcases h2.2 with ⟨e8, h0⟩ | ⟨g, cap', cur, e8, _⟩
    · have : es = [] := List.eq_nil_of_length_eq_zero (by omega)
      rw [this]; simp [RR]
    · cases e8
      have hd : RDL F' E.w es.flatten us := RVL.to_data (E := E') (RVL.mono hext _ _ h3)
      refine RR.of_cells hd (fun e he => ?_) h5 (fun j u hj => ⟨.inr ⟨rfl, ?_⟩, ?_⟩)
      · have := h4 (dV e) (List.mem_map_of_mem he)
        simpa [dV] using this
      · have := (List.getElem?_eq_some_iff.1 hj).1
        omega
      · have := h2.cells (g := g) rfl j u hj
        rw [Addr.add_any] at this
        simpa using this
  have hmo : ∀ u, RV E' (.mo n) u → RV E' (.ow n sz d0 es) u := fun u hu => by
    simp only [RV] at hu ⊢
    have : v = u := Option.some.inj (h1.symm.trans hu.1)
    exact ⟨hu.1, by rw [← this]; exact hrow⟩
  have new : ∀ b o, F'.c b o → E.F.c b o ∨ (hb v = some b ∧ o < es.length * sz) := fun _ _ h => h
  have old : ∀ m y, lkB (setB n (.tok el sz es.length) (frzM n (.ow n sz d0 es) s.st)) m = some y → ∃ y', lkB s.st m = some y' ∧ (m ≠ n → y = frzK n (.ow n sz d0 es) y') := fun m y hy => by
    rw [lkB_setB] at hy
    by_cases hm : m = n
    · exact ⟨_, by rw [hm]; exact hn, fun h => (h hm).elim⟩
    · rw [if_neg hm, lkB_frzM] at hy
      cases h : lkB s.st m with
      | none => rw [h] at hy; cases hy
      | some y' => rw [h] at hy; exact ⟨y', rfl, fun _ => (Option.some.inj hy).symm⟩
  refine ⟨E', rfl, ⟨hG.1.os, hG.1.tape, hG.1.output, hG.1.size, hG.1.old, Ft.le_trans hG.1.F0 hle, fun b o hc => ?_, hG.1.Fm, fun m y hy => ?_, fun i j p q b' v' u hij hpi hqj hvi huj hbi => ?_, hG.1.fresh, fun D hD => ?_⟩, fun t => ?_, hG.2.defers, hG.2.size⟩
  · rcases new b o hc with hc | ⟨hc, _⟩
    · exact hG.1.Fc b o hc
    · have hok := h7 b hc
      exact ⟨hok.1.elim (fun h => .inr (.inl h)) (fun h => .inr (.inr h)), hok.2.1⟩
  · show RBk P B E' m y
    by_cases hm : m = n
    · have hy' := hy
      rw [lkB_setB, if_pos hm] at hy'
      cases hy'
      rw [hm]
      refine ⟨v, us, h1, h2, fun b hb' => ?_⟩
      have hok := h7 b hb'
      exact ⟨hok.1, hok.2.1, hok.2.2.1, fun o ho => (new b o ho).elim (fun h => (hok.2.2.2 o h).elim) (fun h => h.2)⟩
    · obtain ⟨y', hy', hyy⟩ := old m y hy
      have hyy := hyy hm
      have hk : RBk P B E' m y' := (hG.1.st m y' hy').keep (fun _ h => h) hext (Nat.le_refl _) (fun _ _ _ _ _ => rfl) (fun v' b' p' hv' hb' hok' => ⟨hok'.1, hok'.2.1, hok'.2.2.1, fun o ho => (new b' o ho).elim (hok'.2.2.2 o) (fun h => (hG.1.dist n m _ y' b' v v' (Ne.symm hm) hn hy' h1 hv' h.1 hb').elim)⟩)
      rw [hyy]
      cases y' <;> try exact hk
      obtain ⟨b, us', k1, k2, k3, k4, k5⟩ := hk
      exact ⟨b, us', k1, k2, frz1s_ok hmo k3, k4, k5⟩
  · obtain ⟨p2, hp2, _⟩ := old i p hpi
    obtain ⟨q2, hq2, _⟩ := old j q hqj
    exact hG.1.dist i j p2 q2 b' v' u hij hp2 hq2 hvi huj hbi
  · obtain ⟨d1, d2, d3, d4⟩ := hG.1.dp D hD
    refine ⟨d1, d2, d3, fun o ho => (new D o ho).elim (d4 o) (fun h => ?_)⟩
    exact (hG.1.st n _ hn).nodp h1 h.1 d1
  · show RV E' (lkT (frzS n (.ow n sz d0 es) s.tm) t) _
    rcases lkT_frzS (n := n) (v := .ow n sz d0 es) t s.tm with h | ⟨_, h⟩
    · rw [h]; exact frz2_ok hmo (RV.mono hext _ _ (hG.2.tm t))
    · rw [h]; simp only [RV]
theorem aw_frzD (n : Nat) {el sz : Nat} {d0V : List V} (d0 : List D) {esV : List (List V)} (es : List (List D)) {c : Code} {Q : AQ} (hn : lkB s.st n = some (.row el sz d0V esV)) (hes : esV = es.map dV)
    (h : AW P B c Q ⟨⟩ ⟨frzS n (.ow n sz d0 es) s.tm, setB n (.tok el sz es.length) (frzM n (.ow n sz d0 es) s.st), s.nx⟩) : AW P B c Q ⟨⟩ s :=
  aw_weak (fun _ _ hG => gam_frzD hn hes hG) h
/-- an own row of no elements: a row that is written -/
def untV (n : Nat) : V → V
  | .ow m sz d0 es => if m = n then .mo n else .ow m sz d0 es
  | x => x
def untS (n : Nat) : List (Nat × V) → List (Nat × V)
  | [] => []
  | (t, x) :: l => (t, untV n x) :: untS n l
theorem lkT_untS (t : Nat) : ∀ l : List (Nat × V), lkT (untS n l) t = untV n (lkT l t)
  | [] => rfl
  | (u, x) :: l => by
    simp only [untS, lkT]
    by_cases h : t = u
    · rw [if_pos h, if_pos h]
    · rw [if_neg h, if_neg h]; exact lkT_untS t l
theorem untV_ok {x : V} {u : Value} (hx : RV E x u) : RV E (untV n x) u := by
  cases x <;> try exact hx
  rename_i m sz d0 es
  unfold untV
  by_cases hm : m = n
  · subst hm
    simp only [if_true, RV, RD] at hx ⊢
    obtain ⟨h1, a, cap, h2, _⟩ := hx
    exact ⟨h1, a, _, cap, h2⟩
  · simp only [hm, if_false]; exact hx
theorem gam_untok {el sz : Nat} (d0 : List V) (hn : lkB s.st n = some (.tok el sz 0)) {a : Act} (hG : Gam P B s E a) :
    ∃ E', E'.w = E.w ∧ Gam P B ⟨untS n s.tm, setB n (.row el sz d0 []) s.st, s.nx⟩ E' a := by
  have old : ∀ m y, lkB (setB n (.row el sz d0 []) s.st) m = some y → ∃ y', lkB s.st m = some y' ∧ (m ≠ n → y = y') := fun m y hy => by
    rw [lkB_setB] at hy
    by_cases hm : m = n
    · exact ⟨_, by rw [hm]; exact hn, fun h => (h hm).elim⟩
    · rw [if_neg hm] at hy; exact ⟨y, hy, fun _ => rfl⟩
  refine ⟨E, rfl, ⟨hG.1.os, hG.1.tape, hG.1.output, hG.1.size, hG.1.old, hG.1.F0, hG.1.Fc, hG.1.Fm, fun m y hy => ?_, fun i j p q b' v' u hij hpi hqj hvi huj hbi => ?_, hG.1.fresh, hG.1.dp⟩, fun t => ?_, hG.2.defers, hG.2.size⟩
  · show RBk P B E m y
    by_cases hm : m = n
    · rw [lkB_setB, if_pos hm] at hy
      cases hy
      rw [hm]
      obtain ⟨v, us, h1, h2, h3⟩ := hG.1.st n _ hn
      have hl := h2.1
      have : us = [] := List.eq_nil_of_length_eq_zero (by rw [hl]; simp)
      subst this
      refine ⟨v, [], h1, h2, by simp [RVL], by simp, by simp, by simp, fun b hb' => ?_⟩
      have := h3 b hb'
      exact ⟨this.1, this.2.1, this.2.2.1, fun o ho => by have := this.2.2.2 o ho; omega⟩
    · obtain ⟨y', hy', e⟩ := old m y hy
      rw [e hm]; exact hG.1.st m y' hy'
  · obtain ⟨p2, hp2, _⟩ := old i p hpi
    obtain ⟨q2, hq2, _⟩ := old j q hqj
    exact hG.1.dist i j p2 q2 b' v' u hij hp2 hq2 hvi huj hbi
  · show RV E (lkT (untS n s.tm) t) _
    rw [lkT_untS]
    exact untV_ok (hG.2.tm t)
/-- behind the first operations of a region, an own row of no elements is a row that is written -/
structure TokU (K : St → Prop) : Type where
def untK (n : Nat) (d0 : List V) (K : St → Prop) (_ : TokU K) (s1 : St) : Prop := match lkB s1.st n with
  | some (.tok el sz 0) => K ⟨untS n s1.tm, setB n (.row el sz d0 []) s1.st, s1.nx⟩
  | _ => False
theorem aw_regionU {T : Tab} {Q : AQ} (k n : Nat) (d0 : List V) {id : Nat} {ops : Array Oper} (hT : TabOk P T) (hl : (ops.toList.all (opOk B.N)) = true) (h : rwp P B T ops (ops.toList.take k) s (untK n d0 (fun s2 => rwp P B T ops (ops.toList.drop k) s2 (Q .normal)) ⟨⟩)) : AW P B (.region id ops false) Q ⟨⟩ s := fun E a hG => by
  have hops : ∀ o ∈ ops.toList, opOk B.N o = true := fun o ho => List.all_eq_true.1 hl o ho
  refine wpIn_region_list ?_
  rw [← List.take_append_drop k ops.toList]
  refine rwp_list2 hT hops _ s _ (List.all_eq_true.2 fun o ho => hops o (List.mem_of_mem_take ho)) h (fun s1 hs E a hG => ?_) E a hG
  unfold untK at hs
  split at hs <;> try exact hs.elim
  rename_i el sz hn
  obtain ⟨E', e, hG'⟩ := gam_untok d0 hn hG
  have := rwp_list (Q := AQQ P B Q) hT hops _ _ _ (List.all_eq_true.2 fun o ho => hops o (List.mem_of_mem_drop ho)) hs (fun s' hs E a hG => (show AQQ P B Q .normal a E.w from ⟨E, s', rfl, hG, hs⟩)) E' a hG'
  rw [e] at this
  exact this
end
end Go.Proofs.Ytfmefdeldgmhpaa


namespace Go.Proofs.Ytfmefdeldgmhpaa
set_option linter.unusedVariables false
set_option linter.unusedSimpArgs false
open Go.RowKit
theorem frz_dV (n : Nat) (v : V) (l : List D) : (dV l).map (frz1 n v) = dV l := by
  unfold dV
  rw [List.map_map]
  exact List.map_congr_left fun x _ => rfl
section
variable {P : Program} {B : Base} {T : Tab}
theorem wpAny_headsL {l : List Oper} {hd tail : List Nat} {iw : Nat} {Q : Exit → Act → World → Prop} {tm0 tmF : List (Nat × V)} {st00 st0 st1 nbF : List (Nat × Blk)} {nx : Nat} (hok : drawOkS l hd tail iw = true) (hrun : HRun P B l.toArray st00 nx tmF nbF (pickOps l (hd.filter (fun i => i != iw))) tm0 []) (hlate : ∀ p ∈ pickOps l (hd.filter (fun i => i != iw)), reachB .any l.toArray l.length iw p.1 = true ∨ (((p.2.looksAt l.toArray).all fun t => (pickOps l (hd.filter (fun i => i != iw))).all fun q => q.2.dst != some t || reachB .any l.toArray l.length p.1 q.1) = true ∧ ∃ v x, (∀ t, p.2.dst = some t → lkT tmF t = v) ∧ lkB nbF (nx + p.1) = x ∧ HF P B l.toArray p.2 (lkT tmF) (lkB st1) (nx + p.1) v x)) (hN : (l.all (opOk B.N)) = true)
    (hst0 : ∀ n, nx ≤ n → lkB st0 n = none) (hst1 : ∀ n, nx ≤ n → lkB st1 n = none) (hs0 : ∀ n b, lkB st00 n = some b → lkB st0 n = some b)
    (hwr : ∀ ow, l[iw]? = some ow → ∀ (tm : Nat → V) (σ : Nat → Option Blk) (fr : Nat → Prop) (E : Env) (a : Act), GamS P B σ fr E → GamT B tm E a → (∀ n, n < nx → σ n = lkB st0 n) → (∀ t ∈ ow.looksAt l.toArray, tm t = lkT tmF t) →
      Upon P (fun u w' => ∃ E', E'.w = w' ∧ GamS P B (fun n => if n < nx then lkB st1 n else σ n) fr E' ∧ Ext E E' ∧ E'.dp = E.dp) ((execOp a.eval ow).run P E.w))
    (hQ : ∀ E a, Gam P B ⟨tmF, nbF ++ st1, nx + l.length⟩ E a → wpListIn (fen B.r) 0 P l.toArray Q ((pickOps l tail).map (·.2)) a E.w) :
    ∀ (F : Nat) (listed : Array Bool) (E : Env) (a : Act), GInv .any l.toArray listed → (∀ t ∈ tail, listed.getD t false = false) → hd.countP (fun i => !listed.getD i false) = F →
      GamS P B (fun n => if nx ≤ n then (if listed.getD (n - nx) false = true then lkB nbF n else none) else if listed.getD iw false = true then lkB st1 n else lkB st0 n) (fun n => nx ≤ n ∧ (listed.getD (n - nx) false = true → lkB nbF n = none)) E →
      GamT B (fun t => if ((pickOps l (hd.filter (fun i => i != iw))).any fun p => p.2.dst == some t && listed.getD p.1 false) = true then lkT tmF t else lkT tm0 t) E a → wpAnyIn (fen B.r) 0 P .any l.toArray Q (F + tail.length) listed a E.w := by
  simp only [drawOkS, Bool.and_eq_true] at hok
  obtain ⟨⟨⟨⟨⟨⟨⟨⟨⟨⟨⟨hsink, htl⟩, hpart⟩, hlt⟩, hnd⟩, hedge⟩, hincr⟩, hdep⟩, hseq⟩, _⟩, hiwh⟩, hwok⟩ := hok
  have hiwh' : iw ∈ hd := by simpa using hiwh
  have hmN : ∀ {j : Nat}, j ∈ hd.filter (fun i => i != iw) ↔ j ∈ hd ∧ j ≠ iw := fun {j} => by simp [List.mem_filter]
  obtain ⟨f1, f2, f3⟩ := hrun_facts _ _ _ hincr hrun
  have hnd' : hd.Nodup := by simpa using hnd
  have htl' : ∀ t ∈ tail, hd.contains t = false := fun t ht => by have := List.all_eq_true.1 htl t ht; simpa using this
  intro F
  induction F with
  | zero =>
    intro listed E a inv hT hcnt hS hGT
    have hall : ∀ i ∈ hd, listed.getD i false = true := fun i hi => by
      have := List.countP_eq_zero.1 hcnt i hi
      simpa using this
    have hsz : listed.size = l.length := by rw [inv.size]; simp
    have hcan : listed = canonH l.length hd := by
      refine Array.ext_getElem? fun i => ?_
      have hcs := (foldl_canon hd (Array.replicate l.length false) i)
      have hcsz : (canonH l.length hd).size = l.length := by unfold canonH; rw [hcs.1]; simp
      by_cases hi : i < l.length
      · have e1 : listed[i]? = some (listed.getD i false) := by simp [Array.getD_eq_getD_getElem?, hsz, hi]
        have e2 : (canonH l.length hd)[i]? = some ((canonH l.length hd).getD i false) := by simp [Array.getD_eq_getD_getElem?, hcsz, hi]
        rw [e1, e2]
        congr 1
        unfold canonH
        rw [hcs.2]
        rw [getD_replicate_false]
        simp only [Array.size_replicate, Bool.false_or]
        by_cases hh : hd.contains i = true
        · rw [hh, hall i (by simpa using hh)]; simp [hi]
        · have := List.all_eq_true.1 hpart i (List.mem_range.2 hi)
          simp only [Bool.or_eq_true] at this
          rcases this with h | h
          · exact (hh h).elim
          · rw [hT i (by simpa using h)]; simp only [Bool.not_eq_true] at hh; rw [hh]; rfl
      · rw [Array.getElem?_eq_none (by omega), Array.getElem?_eq_none (by omega)]
    rw [Nat.zero_add]
    refine wpAnyIn_of_seqT tail listed a E.w (by rw [hcan]; exact hseq) (hQ E a ⟨hS.congr (fun n => ?_) (fun n hn => ?_), ⟨fun t => ?_, hGT.defers, hGT.size⟩⟩)
    · -- the blocks
      have hap : lkB (nbF ++ st1) n = match lkB nbF n with | some b => some b | none => lkB st1 n := by
        generalize nbF = nb
        induction nb with
        | nil => rfl
        | cons p nb ih =>
          obtain ⟨k, b⟩ := p
          simp only [List.cons_append, lkB]
          split
          · rfl
          · exact ih
      show lkB (nbF ++ st1) n = _
      rw [hap]
      by_cases hn : nx ≤ n
      · rw [if_pos hn]
        by_cases hh : hd.contains (n - nx) = true
        · rw [if_pos (hall _ (by simpa using hh)), hst1 n hn]; cases lkB nbF n <;> rfl
        · have : lkB nbF n = none := by
            rw [f2 n (fun p hp e => hh ?_)]; rfl
            have := (hmN.1 (pickOps_mem.1 hp).1).1
            rw [e, Nat.add_sub_cancel_left]; simpa using this
          rw [this, hst1 n hn]; simp
      · rw [if_neg hn, if_pos (hall iw hiwh')]
        have : lkB nbF n = none := by
          rw [f2 n (fun p hp e => by omega)]; rfl
        rw [this]
    · have hn' : nx + l.length ≤ n := hn
      refine ⟨by omega, fun h => ?_⟩
      rw [show listed.getD (n - nx) false = false by
        simp [Array.getD_eq_getD_getElem?, Array.getElem?_eq_none (show listed.size ≤ n - nx by omega)]] at h
      cases h
    · have := hGT.tm t
      show RV E (lkT tmF t) _
      by_cases hw : ((pickOps l (hd.filter (fun i => i != iw))).any fun p => p.2.dst == some t && listed.getD p.1 false) = true
      · rw [if_pos hw] at this; exact this
      · rw [if_neg hw] at this
        rw [f1 t (fun p hp e => hw (List.any_eq_true.2 ⟨p, hp, by simp [e, hall p.1 (hmN.1 (pickOps_mem.1 hp).1).1]⟩))]
        exact this
  | succ F ih =>
    intro listed E a inv hT hcnt hS hGT
    have hsz : listed.size = l.length := by rw [inv.size]; simp
    rw [show F + 1 + tail.length = (F + tail.length) + 1 by omega]
    -- an operation of the head that has not run
    obtain ⟨k, hk, hku⟩ : ∃ k, k ∈ hd ∧ listed.getD k false = false := by
      have : 0 < hd.countP (fun i => !listed.getD i false) := by omega
      obtain ⟨k, h1, h2⟩ := List.countP_pos_iff.1 this
      exact ⟨k, h1, by simpa using h2⟩
    have hkl : k < l.length := by have := List.all_eq_true.1 hlt k hk; simpa using this
    have hku' : listed.getD k true = false := getD_in (by omega) hku
    refine ⟨fun hr => ?_, fun i hi => ?_⟩
    · -- the least that has not run is ready
      obtain ⟨m, ⟨hm1, hm2⟩, hm3⟩ := exists_min (p := fun m => m < l.length ∧ listed.getD m false = false) ⟨k, hkl, hku⟩
      have : m ∈ Region.ready .any l.toArray listed := by
        refine mem_ready.2 ⟨getD_in (by omega) hm2, l[m], by simp [hm1], fun e he hb => ?_⟩
        have h1 := List.all_eq_true.1 hedge m (List.mem_range.2 hm1)
        rw [List.getElem?_eq_getElem hm1] at h1
        have h2 := List.all_eq_true.1 h1 e (by simpa using he)
        rw [hb] at h2
        simp at h2
        cases hc : listed.getD e.on false with
        | true => rfl
        | false => exact (hm3 e.on h2 ⟨by omega, hc⟩).elim
      rw [hr] at this
      cases this
    · have hih := sink_spec hsink inv (i := k) (by simpa using hkl) (by simpa using hk) hku' hi
      have hi' : i ∈ hd := by simpa using hih
      obtain ⟨hiun, o, ho, hafter⟩ := mem_ready.1 hi
      have hol : l[i]? = some o := by simpa using ho
      have hil : i < l.length := (List.getElem?_eq_some_iff.1 hol).1
      have hiun' := getD_both hiun
      have hopk := List.all_eq_true.1 hN o (List.mem_of_getElem? hol)
      have inv2 := inv.set hi
      have hself : (listed.setIfInBounds i true).getD i false = true := by simp [hsz, hil]
      have hoth : ∀ j, j ≠ i → (listed.setIfInBounds i true).getD j false = listed.getD j false := fun j hj => getD_set_ne false (Ne.symm hj)
      have hT2 : ∀ t ∈ tail, (listed.setIfInBounds i true).getD t false = false := fun t ht => by
        rw [hoth t (fun e => by have := htl' t ht; rw [e] at this; rw [this] at hih; cases hih)]; exact hT t ht
      have hcnt2 : hd.countP (fun j => !(listed.setIfInBounds i true).getD j false) = F := by
        have := countP_set hnd' hi' (f := fun j => !listed.getD j false) (g := fun j => !(listed.setIfInBounds i true).getD j false) (by simp [hiun']) (by simp [hself]) (fun j hj => by rw [hoth j hj])
        omega
      by_cases hiw : i = iw
      · -- the write
        subst hiw
        rw [hol] at hwok
        simp only [Bool.and_eq_true] at hwok
        obtain ⟨⟨hwd, hwg⟩, hwl⟩ := hwok
        have hwd' : o.dst = none := by simpa using hwd
        have hwg' : o.guard = none := by simpa using hwg
        have hag : ∀ t ∈ o.looksAt l.toArray, (if ((pickOps l (hd.filter (fun j => j != i))).any fun p => p.2.dst == some t && listed.getD p.1 false) = true then lkT tmF t else lkT tm0 t) = lkT tmF t := fun t ht => by
          by_cases hw : ((pickOps l (hd.filter (fun j => j != i))).any fun p => p.2.dst == some t && listed.getD p.1 false) = true
          · rw [if_pos hw]
          · rw [if_neg hw]
            refine (f1 t (fun q hq hqt => hw (List.any_eq_true.2 ⟨q, hq, ?_⟩))).symm
            have h1 := List.all_eq_true.1 (List.all_eq_true.1 hwl t ht) q hq
            simp only [Bool.or_eq_true, bne_iff_ne, ne_eq] at h1
            rcases h1 with h | h
            · exact (h hqt).elim
            · have := reach_listed inv _ _ _ h (fun o' ho' e he hb => by
                have : o' = o := Option.some.inj (ho'.symm.trans ho)
                subst this
                exact hafter e he hb)
              simp [hqt, this]
        have hw : Region.wanted o (yielded l.toArray a.tmps) = true := by simp [Region.wanted, hwg']
        have h1 := hwr o hol _ _ _ E a hS hGT (fun n hn => by rw [if_neg (by omega), hiun', if_neg (by simp)]) hag
        unfold wpOpIn
        simp only [ho, hw, if_true]
        refine h1.wpIn ?_
        rintro u w' ⟨E', rfl, hS', hext, hdp⟩
        rw [hwd']
        refine ih _ E' _ inv2 hT2 hcnt2 (hS'.congr (fun n => ?_) (fun n hn => ⟨hn.1, fun h => hn.2 (getD_set_true h)⟩)) ⟨fun t => ?_, ((hGT.ext hext hdp)).defers, hGT.size⟩
        · by_cases hn : nx ≤ n
          · have h3 : ¬ n < nx := by omega
            simp only [if_pos hn, if_neg h3]
            by_cases hni : n - nx = i
            · have hn' : n = nx + i := by omega
              have : lkB nbF n = none := by
                rw [f2 n (fun p hp e => by
                  have := (hmN.1 (pickOps_mem.1 hp).1).2
                  omega)]; rfl
              rw [this]
              simp
            · rw [hoth _ hni]
          · have h3 : n < nx := by omega
            simp only [if_neg hn, if_pos h3, if_pos hself]
        · have := (hGT.ext hext hdp).tm t
          have e : ((pickOps l (hd.filter (fun j => j != i))).any fun p => p.2.dst == some t && (listed.setIfInBounds i true).getD p.1 false) = ((pickOps l (hd.filter (fun j => j != i))).any fun p => p.2.dst == some t && listed.getD p.1 false) := by
            rw [Bool.eq_iff_iff, List.any_eq_true, List.any_eq_true]
            constructor
            · rintro ⟨p, hp, h⟩
              rw [hoth p.1 (hmN.1 (pickOps_mem.1 hp).1).2] at h
              exact ⟨p, hp, h⟩
            · rintro ⟨p, hp, h⟩
              refine ⟨p, hp, ?_⟩
              rw [hoth p.1 (hmN.1 (pickOps_mem.1 hp).1).2]
              exact h
          rw [e]
          exact this
      have hmem : (i, o) ∈ pickOps l (hd.filter (fun i => i != iw)) := pickOps_mem.2 ⟨hmN.2 ⟨hi', hiw⟩, hol⟩
      obtain ⟨tmi, v, x, hst, stX, g1, g2, g3, hag⟩ : ∃ (tmi : Nat → V) (v : V) (x : Option Blk), ∃ (hst : True) (stX : List (Nat × Blk)), (HF P B l.toArray o tmi (lkB stX) (nx + i) v x ∧ ∀ n b, lkB stX n = some b → (if nx ≤ n then (if listed.getD (n - nx) false = true then lkB nbF n else none) else if listed.getD iw false = true then lkB st1 n else lkB st0 n) = some b) ∧ (∀ t, o.dst = some t → lkT tmF t = v) ∧ lkB nbF (nx + i) = x ∧ ∀ t ∈ o.looksAt l.toArray, (if ((pickOps l (hd.filter (fun i => i != iw))).any fun p => p.2.dst == some t && listed.getD p.1 false) = true then lkT tmF t else lkT tm0 t) = tmi t := by
        by_cases hli : listed.getD iw false = true
        · -- behind the write
          rcases hlate (i, o) hmem with h | ⟨h, v, x, e1, e2, e3⟩
          · have := reach_listed inv _ _ _ h (fun o' ho' e he hb => inv.closed iw o' ho' hli e he hb)
            rw [hiun'] at this
            cases this
          · refine ⟨lkT tmF, v, x, trivial, st1, ⟨e3, fun n b hb => ?_⟩, e1, e2, fun t ht => ?_⟩
            · by_cases hn : nx ≤ n
              · rw [hst1 n hn] at hb; cases hb
              · rw [if_neg hn, if_pos hli]; exact hb
            · by_cases hw : ((pickOps l (hd.filter (fun j => j != iw))).any fun p => p.2.dst == some t && listed.getD p.1 false) = true
              · rw [if_pos hw]
              · rw [if_neg hw]
                refine (f1 t (fun q hq hqt => hw (List.any_eq_true.2 ⟨q, hq, ?_⟩))).symm
                have h1 := List.all_eq_true.1 (List.all_eq_true.1 h t ht) q hq
                simp only [Bool.or_eq_true, bne_iff_ne, ne_eq] at h1
                rcases h1 with h | h
                · exact (h hqt).elim
                · have := reach_listed inv _ _ _ h (fun o' ho' e he hb => by
                    have : o' = o := Option.some.inj (ho'.symm.trans ho)
                    subst this
                    exact hafter e he hb)
                  simp [hqt, this]
        · obtain ⟨tmi, v, x, g1, g2, g3, g4, g5⟩ := f3 (i, o) hmem
          simp only at g1 g2 g3 g4 g5
          have g3 := g3 rfl
          -- what it looks at is as it was evaluated
          have hag : ∀ t ∈ o.looksAt l.toArray, (if ((pickOps l (hd.filter (fun i => i != iw))).any fun p => p.2.dst == some t && listed.getD p.1 false) = true then lkT tmF t else lkT tm0 t) = tmi t := fun t ht => by
            have hd1 := List.all_eq_true.1 hdep (i, o) hmem
            have hd2 := List.all_eq_true.1 hd1 t ht
            by_cases hw : ((pickOps l (hd.filter (fun i => i != iw))).any fun p => p.2.dst == some t && listed.getD p.1 false) = true
            · rw [if_pos hw]
              obtain ⟨q, hq, hq2⟩ := List.any_eq_true.1 hw
              simp only [Bool.and_eq_true, beq_iff_eq] at hq2
              have hd3 := List.all_eq_true.1 hd2 q hq
              simp only [Bool.or_eq_true, bne_iff_ne, ne_eq] at hd3
              rcases hd3 with h | h
              · exact (h hq2.1).elim
              · by_cases hlt2 : q.1 < i
                · exact (g4 t q hq hlt2 hq2.1).symm
                · rw [if_neg hlt2] at h
                  simp only [Bool.and_eq_true, decide_eq_true_eq] at h
                  have := reach_listed inv _ _ _ h.2 (fun o' ho' e he hb => inv.closed q.1 o' ho' hq2.2 e he hb)
                  rw [hiun'] at this
                  cases this
            · rw [if_neg hw]
              refine (g5 t (fun q hq hql hqt => hw (List.any_eq_true.2 ⟨q, hq, ?_⟩))).symm
              have hd3 := List.all_eq_true.1 hd2 q hq
              simp only [Bool.or_eq_true, bne_iff_ne, ne_eq] at hd3
              rcases hd3 with h | h
              · exact (h hqt).elim
              · rw [if_pos hql] at h
                have := reach_listed inv _ _ _ h (fun o' ho' e he hb => by
                  have : o' = o := Option.some.inj (ho'.symm.trans ho)
                  subst this
                  exact hafter e he hb)
                simp [hqt, this]
          refine ⟨tmi, v, x, trivial, st00, ⟨g1, fun n b hb => ?_⟩, g2, g3, hag⟩
          by_cases hn : nx ≤ n
          · have := hs0 n b hb; rw [hst0 n hn] at this; cases this
          · rw [if_neg hn, if_neg hli]; exact hs0 n b hb
      obtain ⟨g1, hst⟩ := g1
      obtain ⟨h1, h2⟩ := g1 _ _ _ E a hS hGT ⟨by omega, fun h => by rw [Nat.add_sub_cancel_left, hiun'] at h; cases h⟩ hst hag
      have hoiw : (listed.setIfInBounds i true).getD iw false = listed.getD iw false := hoth iw (fun e => hiw e.symm)
      have hσ2 : ∀ n, (if nx ≤ n then (if (listed.setIfInBounds i true).getD (n - nx) false = true then lkB nbF n else none) else if (listed.setIfInBounds i true).getD iw false = true then lkB st1 n else lkB st0 n) = if n = nx + i then x else (if nx ≤ n then (if listed.getD (n - nx) false = true then lkB nbF n else none) else if listed.getD iw false = true then lkB st1 n else lkB st0 n) := fun n => by
        by_cases hn : n = nx + i
        · subst hn
          rw [if_pos rfl, if_pos (by omega), Nat.add_sub_cancel_left, if_pos hself, g3]
        · rw [if_neg hn]
          by_cases hn2 : nx ≤ n
          · rw [if_pos hn2, if_pos hn2, hoth (n - nx) (by omega)]
          · rw [if_neg hn2, if_neg hn2, hoiw]
      have hfr2 : ∀ n, (nx ≤ n ∧ ((listed.setIfInBounds i true).getD (n - nx) false = true → lkB nbF n = none)) → (nx ≤ n ∧ (listed.getD (n - nx) false = true → lkB nbF n = none)) ∧ (x.isSome = true → n ≠ nx + i) := fun n hn => by
        refine ⟨⟨hn.1, fun h => hn.2 (getD_set_true h)⟩, fun hx e => ?_⟩
        subst e
        have := hn.2 (by rw [Nat.add_sub_cancel_left]; exact hself)
        rw [g3] at this
        rw [this] at hx
        cases hx
      have htm2 : ∀ t, (if ((pickOps l (hd.filter (fun i => i != iw))).any fun p => p.2.dst == some t && (listed.setIfInBounds i true).getD p.1 false) = true then lkT tmF t else lkT tm0 t) = if o.dst = some t then v else (if ((pickOps l (hd.filter (fun i => i != iw))).any fun p => p.2.dst == some t && listed.getD p.1 false) = true then lkT tmF t else lkT tm0 t) := fun t => by
        by_cases hd1 : o.dst = some t
        · rw [if_pos hd1, if_pos (List.any_eq_true.2 ⟨(i, o), hmem, by simp [hd1, hself]⟩), g2 t hd1]
        · rw [if_neg hd1]
          have : ((pickOps l (hd.filter (fun i => i != iw))).any fun p => p.2.dst == some t && (listed.setIfInBounds i true).getD p.1 false) = ((pickOps l (hd.filter (fun i => i != iw))).any fun p => p.2.dst == some t && listed.getD p.1 false) := by
            rw [Bool.eq_iff_iff, List.any_eq_true, List.any_eq_true]
            constructor
            · rintro ⟨p, hp, h⟩
              simp only [Bool.and_eq_true, beq_iff_eq] at h
              have hpi : p.1 ≠ i := fun e => by
                have := (pickOps_mem.1 hp).2
                rw [e, hol] at this
                injection this with this
                rw [← this] at h
                exact hd1 h.1
              rw [hoth p.1 hpi] at h
              exact ⟨p, hp, by simp [h.1, h.2]⟩
            · rintro ⟨p, hp, h⟩
              simp only [Bool.and_eq_true, beq_iff_eq] at h
              exact ⟨p, hp, by simp [h.1, getD_set_true h.2]⟩
          rw [this]
      have hdN : ∀ t, o.dst = some t → t < B.N := fun t e => by
        have : (match o.dst with | some d => decide (d < B.N) | none => true) = true := by
          simp only [opOk, Bool.and_eq_true] at hopk; exact hopk.2
        rw [e] at this
        simpa using this
      unfold wpOpIn
      simp only [ho]
      cases hw : Region.wanted o (yielded l.toArray a.tmps) with
      | true =>
        rw [if_pos rfl]
        refine (h1 hw).wpIn ?_
        rintro u w' ⟨E', rfl, hS', hext, hdp, hv⟩
        exact ih _ E' _ inv2 hT2 hcnt2 (hS'.congr hσ2 hfr2) ((hGT.ext hext hdp).putF (fun t e => ⟨hv, hdN t e⟩) htm2)
      | false =>
        rw [if_neg (by simp)]
        obtain ⟨rfl, hv⟩ := h2 hw
        have hσn : ∀ n, (if n = nx + i then none else (if nx ≤ n then (if listed.getD (n - nx) false = true then lkB nbF n else none) else if listed.getD iw false = true then lkB st1 n else lkB st0 n)) = (if nx ≤ n then (if listed.getD (n - nx) false = true then lkB nbF n else none) else if listed.getD iw false = true then lkB st1 n else lkB st0 n) := fun n => by
          by_cases hn : n = nx + i
          · subst hn; rw [if_pos rfl, if_pos (by omega), Nat.add_sub_cancel_left, hiun', if_neg (by simp)]
          · rw [if_neg hn]
        exact ⟨fun _ _ => trivial, ih _ E _ inv2 hT2 hcnt2 (hS.congr (fun n => (hσ2 n).trans (hσn n)) (fun n hn => (hfr2 n hn).1)) (hGT.putF (fun t e => ⟨hv, hdN t e⟩) htm2)⟩
/-- the early write to a written row, evaluated -/
def earlyR (T : Tab) (o : Option Oper) (n : Nat) (tm : List (Nat × V)) (st : List (Nat × Blk)) (K : List (Nat × Blk) → Prop) : Prop := match o with
  | some o => match o.op with
    | .store t x y => match ty T t, ev (lkT tm) x with
      | some i, .oel m sz1 j off => match lkB st n, vcells (ev (lkT tm) y) with
        | some (.row e sz2 d0 es), some ds => m = n ∧ ds.length = i.sz ∧ off + i.sz ≤ sz1 ∧ sz1 = sz2 ∧ j < es.length ∧ K (setB n (.row e sz1 d0 (es.set j (splice (es.getD j d0) off ds))) st)
        | _, _ => False
      | _, _ => False
    | _ => False
  | none => False
theorem earlyR_ok (hT : TabOk P T) {l : List Oper} {iw n nx : Nat} {tm : List (Nat × V)} {st : List (Nat × Blk)} {K : List (Nat × Blk) → Prop} (hN : (l.all (opOk B.N)) = true) (hst : ∀ m, nx ≤ m → lkB st m = none) (h : earlyR T l[iw]? n tm st K) :
    ∃ st1, K st1 ∧ (∀ m, nx ≤ m → lkB st1 m = none) ∧ ∀ ow, l[iw]? = some ow → ∀ (tm' : Nat → V) (σ : Nat → Option Blk) (fr : Nat → Prop) (E : Env) (a : Act), GamS P B σ fr E → GamT B tm' E a → (∀ n, n < nx → σ n = lkB st n) → (∀ t ∈ ow.looksAt l.toArray, tm' t = lkT tm t) →
      Upon P (fun u w' => ∃ E', E'.w = w' ∧ GamS P B (fun n => if n < nx then lkB st1 n else σ n) fr E' ∧ Ext E E' ∧ E'.dp = E.dp) ((execOp a.eval ow).run P E.w) := by
  unfold earlyR at h
  split at h <;> try exact h.elim
  rename_i o hol
  split at h <;> try exact h.elim
  rename_i t x y hop
  split at h <;> try exact h.elim
  rename_i i m sz1 j off hi0 hx
  split at h <;> try exact h.elim
  rename_i e sz2 d0 es ds hn hy
  obtain ⟨rfl, hsz, hoff, rfl, hj, hK⟩ := h
  have hi := ty_ok hT hi0
  obtain ⟨n, rfl⟩ : ∃ n, n = m := ⟨m, rfl⟩
  have hlt : n < nx := by
    rcases Nat.lt_or_ge n nx with h | h
    · exact h
    · rw [hst n h] at hn; cases hn
  refine ⟨_, hK, fun k hk => ?_, fun ow how tm' σ fr E a hS hGT hσ hag => ?_⟩
  · rw [lkB_setB, if_neg (by omega)]; exact hst k hk
  · rw [hol] at how
    cases how
    have hok := List.all_eq_true.1 hN o (List.mem_of_getElem? hol)
    have hm := opOk_mem hok
    have hxo : x ∈ o.op.operands := by simp [hop, Op.operands]
    have hyo : y ∈ o.op.operands := by simp [hop, Op.operands]
    have rx := ev_ok hGT x (hm x hxo)
    have ry := ev_ok hGT y (hm y hyo)
    rw [ev_congr (ops := l.toArray) hag hxo, hx] at rx
    rw [ev_congr (ops := l.toArray) hag hyo] at ry
    simp only [RV] at rx
    obtain ⟨b, ln, c, hb1, hb2⟩ := rx
    obtain ⟨us, g1, g2, g3⟩ := vcells_ok hy ry
    have g4 := g2
    have hl4 := g4.len
    have hσm : σ n = some (.row e sz1 d0 es) := by rw [hσ n hlt, hn]
    have hσ' : ∀ k, (if k < nx then lkB (setB n (.row e sz1 d0 (es.set j (splice (es.getD j d0) off ds))) st) k else σ k) = if k = n then some (.row e sz1 d0 (es.set j (splice (es.getD j d0) off ds))) else σ k := fun k => by
      by_cases hk : k < nx
      · simp only [if_pos hk, lkB_setB]
        by_cases hkm : k = n
        · rw [if_pos hkm, if_pos hkm]
        · rw [if_neg hkm, if_neg hkm, hσ k hk]
      · simp only [if_neg hk]
        rw [if_neg (by omega)]
    obtain ⟨v0, cur0, k1, k2, k3, k4, k5, k6, k7⟩ := hS.st n _ hσm
    rw [hb1] at k1
    cases k1
    rcases k2.2 with ⟨hnil, _⟩ | ⟨g, cap, cur, hv, _, hgb, hle, hcm, hcs, htake⟩
    · cases hnil
    · cases hv
      have hbound : j * sz1 + sz1 ≤ es.length * sz1 := by
        calc j * sz1 + sz1 = (j + 1) * sz1 := by rw [Nat.add_mul, Nat.one_mul]
          _ ≤ es.length * sz1 := Nat.mul_le_mul_right _ hj
      have hbound2 : es.length * sz1 ≤ cur.size := by rw [hcs]; exact Nat.mul_le_mul_right _ hle
      have hgb' : E.w.heap[b]? = some (.cells cur.toList.toArray e (0, 0)) := by simpa using hgb
      obtain ⟨f1, f2, f3, f4, f5⟩ := setCells_facts b us (j * sz1 + off) E.w
      have hrun := st_run (P := P) (w := E.w) (b := b) (o := j * sz1 + off) hi g1 g3 (by omega) (there_of hgb' (by simp; omega))
      have hlen0 : cur0.length = es.length * sz1 := k2.1
      have hW := GamS.write (x := .row e sz1 d0 es) (x' := .row e sz1 d0 (es.set j (splice (es.getD j d0) off ds))) (σ' := fun k => if k < nx then lkB (setB n (.row e sz1 d0 (es.set j (splice (es.getD j d0) off ds))) st) k else σ k) (w' := E.w.setCells b (j * sz1 + off) us) hS hσm hσ' hb1 rfl (fun o' ho' => ((k7 b rfl).2.2.2 o' ho').elim) f1 f2 f3 f4 f5 (fun E' hE' hext hok => by
        subst hE'
        have hge : es.getD j d0 ∈ es := by
          have : es[j]? = some (es.getD j d0) := by simp [List.getD, hj]
          exact List.mem_of_getElem? this
        have hel := k4 _ hge
        have hsplen : (splice (es.getD j d0) off ds).length = sz1 := by unfold splice; simp only [List.length_append, List.length_take, List.length_drop]; omega
        refine ⟨_, spliceU cur0 (j * sz1 + off) us, hb1, ⟨?_, .inr ⟨b, c, (spliceU cur.toList (j * sz1 + off) us).toArray, by simp, Nat.zero_le _, setCells_splice hgb' (by simp; omega), by simpa using hle, hcm, ?_, ?_⟩⟩, ?_, ?_, ?_, by simpa using k6, fun b' hb' => by cases hb'; exact hok⟩
        · unfold spliceU; simp; omega
        · unfold spliceU; simp; omega
        · simp only [List.length_set]
          rw [spliceU_take (by omega) (by simpa using hbound2), htake]
        · -- the elements' cells
          have key : ∀ (es : List (List V)) (us0 : List Value) (j : Nat) (hj : j < es.length), (∀ y ∈ es, y.length = sz1) → ∀ {E : Env}, RVL E es.flatten us0 → RVL E ds us → RVL E (es.set j (splice (es.getD j d0) off ds)).flatten (spliceU us0 (j * sz1 + off) us) := by
            intro es
            induction es with
            | nil => intro us0 j hj; simp at hj
            | cons y es ih =>
              intro us0 j hj hz E h1 h2
              have hy := hz y (by simp)
              simp only [List.flatten_cons] at h1
              have t1 := h1.take y.length
              have t2 := h1.drop y.length
              simp only [List.take_left', List.drop_left'] at t1 t2
              have hl0 := h1.len
              have hl1 := t1.len
              cases j with
              | zero =>
                simp only [List.set_cons_zero, List.flatten_cons, List.getD_cons_zero, Nat.zero_mul, Nat.zero_add]
                have hh := ((t1.take off).append h2).append (t1.drop (off + ds.length)) |>.append t2
                have hud : us.length = ds.length := h2.len
                have e1 : spliceU us0 off us = ((us0.take y.length).take off ++ us ++ (us0.take y.length).drop (off + ds.length)) ++ us0.drop y.length := by
                  rw [spliceU_left (n := y.length) (by omega) (by simp at hl1; omega), ← hud]
                  rfl
                rw [e1]
                exact hh
              | succ j =>
                simp only [List.set_cons_succ, List.flatten_cons, List.getD_cons_succ]
                have hj' : j < es.length := by simpa using hj
                have ih' := ih (us0.drop y.length) j hj' (fun z hz' => hz z (by simp [hz'])) t2 h2
                have hud : us.length = ds.length := h2.len
                have hlb : j * sz1 + sz1 ≤ es.flatten.length := by
                  have : es.flatten.length = es.length * sz1 := by
                    clear ih ih' h1 t1 t2 hl0 hl1 hj hj'
                    induction es with
                    | nil => simp
                    | cons z es ih2 =>
                      rw [List.flatten_cons, List.length_append, ih2 (fun q hq => hz q (by
                        rcases List.mem_cons.1 hq with rfl | hq
                        · simp
                        · simp [hq])), hz z (by simp), List.length_cons, Nat.add_mul, Nat.one_mul, Nat.add_comm]
                  rw [this]
                  calc j * sz1 + sz1 = (j + 1) * sz1 := by rw [Nat.add_mul, Nat.one_mul]
                    _ ≤ es.length * sz1 := Nat.mul_le_mul_right _ hj'
                have e1 : spliceU us0 ((j + 1) * sz1 + off) us = us0.take y.length ++ spliceU (us0.drop y.length) (j * sz1 + off) us := by
                  rw [show (j + 1) * sz1 + off = y.length + (j * sz1 + off) by rw [Nat.add_mul]; omega]
                  rw [List.length_append] at hl0
                  exact spliceU_right (by omega)
                rw [e1]
                exact t1.append ih'
          exact key es cur0 j hj k4 (RVL.mono hext _ _ k3) (RVL.mono hext _ _ g4)
        · intro z hz
          rcases List.mem_or_eq_of_mem_set hz with hz | rfl
          · exact k4 z hz
          · exact hsplen
        · intro u hu
          unfold spliceU at hu
          rcases List.mem_append.1 hu with hu | hu
          · rcases List.mem_append.1 hu with hu | hu
            · exact k5 u (List.mem_of_mem_take hu)
            · exact g3 u hu
          · exact k5 u (List.mem_of_mem_drop hu))
      have hr : (execOp a.eval o).run P E.w = .ok .skip (E.w.setCells b (j * sz1 + off) us) := by simp [execOp, hop, hb2, hrun]
      rw [hr]
      exact ⟨_, rfl, hW.1, hW.2, rfl⟩
/-- heads that may come behind the write go the same way there -/
def lateK (P : Program) (T : Tab) (ops : Array Oper) (tm : List (Nat × V)) (st1 nb : List (Nat × Blk)) (nx : Nat) : List (Nat × Oper) → Prop → Prop
  | [], K => K
  | (i, o) :: l, K => hopH P T ops o tm st1 (nx + i) (fun v x => ((match o.dst with | some d => lkT tm d | none => v), lkB nb (nx + i)) = (v, x) ∧ lateK P T ops tm st1 nb nx l K)
def lateL (l : List Oper) (iw : Nat) (hs : List (Nat × Oper)) : List (Nat × Oper) := hs.filter fun p => !reachB .any l.toArray l.length iw p.1
def lateOk (l : List Oper) (iw : Nat) (hs : List (Nat × Oper)) : Bool := (lateL l iw hs).all fun p => (p.2.looksAt l.toArray).all fun t => hs.all fun q => q.2.dst != some t || reachB .any l.toArray l.length p.1 q.1
theorem lateK_ok (hT : TabOk P T) {ops : Array Oper} (hops : ∀ o ∈ ops.toList, opOk B.N o = true) {tm : List (Nat × V)} {st1 nb : List (Nat × Blk)} {nx : Nat} {K : Prop} : ∀ (l : List (Nat × Oper)), (l.all fun p => p.2.op.operands.toList.all (constOk B.N)) = true → lateK P T ops tm st1 nb nx l K → K ∧ ∀ p ∈ l, ∃ v x, (∀ t, p.2.dst = some t → lkT tm t = v) ∧ lkB nb (nx + p.1) = x ∧ HF P B ops p.2 (lkT tm) (lkB st1) (nx + p.1) v x
  | [], _, h => ⟨h, fun p hp => by cases hp⟩
  | (i, o) :: l, hc, h => by
    simp only [List.all_cons, Bool.and_eq_true] at hc
    obtain ⟨v, x, ⟨h1, h2⟩, h3⟩ := hopH_ok (B := B) hT hops hc.1 h
    obtain ⟨hK, ih⟩ := lateK_ok hT hops l hc.2 h2
    refine ⟨hK, fun p hp => ?_⟩
    rcases List.mem_cons.1 hp with rfl | hp
    · simp only [Prod.mk.injEq] at h1
      refine ⟨v, x, fun t ht => ?_, h1.2, h3⟩
      have := h1.1
      simp only at ht
      rw [ht] at this
      exact this
    · exact ih p hp
/-- a region with an early write to the written row n (index iw): what may come behind it does not read the row -/
theorem aw_drawnL (iw n : Nat) (late : List Nat) {id : Nat} {ops : Array Oper} {s : St} {Q : AQ} (hT : TabOk P T) (hm : P.follows .mixedOrders = true) (hl : (ops.toList.all (opOk B.N)) = true) (hok : (drawOkS ops.toList (iw :: headIdx 0 ops.toList) ((tailIdx 0 ops.toList).filter (fun i => i != iw)) iw && lateOk ops.toList iw (headOps 0 ops.toList) && (lateL ops.toList iw (headOps 0 ops.toList)).all (fun p => late.contains p.1)) = true)
    (hh : (iw :: headIdx 0 ops.toList).filter (fun i => i != iw) = headIdx 0 ops.toList)
    (h : hwp P T ops s.st s.nx (headOps 0 ops.toList) s.tm [] (fin2 (fun tm nb => earlyR T ops.toList[iw]? n tm s.st (fun st1 => lateK P T ops tm st1 nb s.nx (pickOps ops.toList late) (rwp P B T ops (tailX iw 0 ops.toList) ⟨tm, nb ++ st1, s.nx + ops.toList.length⟩ (Q .normal)))) ⟨⟩)) : AW P B (.region id ops true) Q ⟨⟩ s := fun E a hG => by
  obtain ⟨l, rfl⟩ : ∃ l : List Oper, ops = l.toArray := ⟨ops.toList, by simp⟩
  simp only [List.toList_toArray, Bool.and_eq_true] at hl hok hh h
  obtain ⟨⟨hok, hlo⟩, hla⟩ := hok
  have hops0 : ∀ o ∈ l.toArray.toList, opOk B.N o = true := fun o ho => List.all_eq_true.1 hl o (by simpa using ho)
  have e1 := headOps_eq l []
  have e2 := tailX_eq iw l []
  simp only [List.nil_append, List.length_nil] at e1 e2
  have hc : ((headOps 0 l).all fun p => p.2.op.operands.toList.all (constOk B.N)) = true := List.all_eq_true.2 fun p hp => by
    rw [← e1] at hp
    have := List.all_eq_true.1 hl p.2 (List.mem_of_getElem? (pickOps_mem.1 hp).2)
    simp only [opOk, Bool.and_eq_true] at this
    exact this.1
  obtain ⟨tmF, nbF, hK, hrun⟩ := hwp_ok (B := B) hT hops0 _ _ _ hc h
  have hG' := gam_drew hG
  have hst0 : ∀ n, s.nx ≤ n → lkB s.st n = none := fun n hn => hG.1.none_of_fresh hn
  unfold fin2 at hK
  obtain ⟨st1, hK2, hst1, hwr⟩ := earlyR_ok (B := B) hT hl hst0 hK
  obtain ⟨hK1, hlt⟩ := lateK_ok (B := B) hT hops0 _ (List.all_eq_true.2 fun p hp => by
    have := List.all_eq_true.1 hl p.2 (List.mem_of_getElem? (pickOps_mem.1 hp).2)
    simp only [opOk, Bool.and_eq_true] at this
    exact this.1) hK2
  refine wpIn_region_any hm ?_
  have htail : ((pickOps l ((tailIdx 0 l).filter (fun i => i != iw))).map (·.2)).all (opOk B.N) = true := List.all_eq_true.2 fun o ho => by
    obtain ⟨p, hp, rfl⟩ := List.mem_map.1 ho
    exact List.all_eq_true.1 hl p.2 (List.mem_of_getElem? (pickOps_mem.1 hp).2)
  rw [← e1, ← hh] at hrun
  have hlate : ∀ p ∈ pickOps l ((iw :: headIdx 0 l).filter (fun i => i != iw)), reachB .any l.toArray l.length iw p.1 = true ∨ (((p.2.looksAt l.toArray).all fun t => (pickOps l ((iw :: headIdx 0 l).filter (fun i => i != iw))).all fun q => q.2.dst != some t || reachB .any l.toArray l.length p.1 q.1) = true ∧ ∃ v x, (∀ t, p.2.dst = some t → lkT tmF t = v) ∧ lkB nbF (s.nx + p.1) = x ∧ HF P B l.toArray p.2 (lkT tmF) (lkB st1) (s.nx + p.1) v x) := fun p hp => by
    rw [hh, e1] at hp
    by_cases hr : reachB .any l.toArray l.length iw p.1 = true
    · exact .inl hr
    · have hpl : p ∈ lateL l iw (headOps 0 l) := List.mem_filter.2 ⟨hp, by simpa using hr⟩
      have hin : p ∈ pickOps l late := by
        have h1 := List.all_eq_true.1 hla p hpl
        rw [← e1] at hp
        exact pickOps_mem.2 ⟨by simpa using h1, (pickOps_mem.1 hp).2⟩
      refine .inr ⟨?_, hlt p hin⟩
      rw [hh, e1]
      exact List.all_eq_true.1 hlo p hpl
  have := wpAny_headsL (Q := AQQ P B Q) hok hrun hlate hl hst0 hst1 (fun _ _ hb => hb) hwr (fun E a hG => rwp_list hT hops0 _ _ _ htail (by rw [e2]; exact hK1) (fun s' hs E a hG => ⟨E, s', rfl, hG, hs⟩) E a hG) (iw :: headIdx 0 l).length (Array.replicate l.toArray.size false) ⟨E.η, E.F, { E.w with drawn := E.w.drawn + 1 }, E.dp⟩ a
    ⟨by simp, fun j oj _ hl => (by rw [getD_replicate_false] at hl; cases hl)⟩ (fun t _ => getD_replicate_false _ _) (by
      rw [List.countP_eq_length]; intro i _; rw [getD_replicate_false]; rfl)
    (hG'.1.congr (fun n => by
      rw [getD_replicate_false, getD_replicate_false]
      by_cases hn : s.nx ≤ n
      · rw [if_pos hn, if_neg (by simp), hst0 n hn]
      · rw [if_neg hn, if_neg (by simp)]) (fun n hn => hn.1))
    ⟨fun t => by
      have : ((pickOps l ((iw :: headIdx 0 l).filter (fun i => i != iw))).any fun p => p.2.dst == some t && (Array.replicate l.toArray.size false).getD p.1 false) = false := by
        rw [List.any_eq_false]; intro p _; rw [getD_replicate_false]; simp
      rw [this, if_neg (by simp)]
      exact hG'.2.tm t, hG'.2.defers, hG'.2.size⟩
  have hlen : (iw :: headIdx 0 l).length + ((tailIdx 0 l).filter (fun i => i != iw)).length = l.length := by
    simp only [drawOkS, Bool.and_eq_true, decide_eq_true_eq] at hok
    exact hok.1.1.2
  rw [hlen] at this
  simpa using this
end
end Go.Proofs.Ytfmefdeldgmhpaa

