/- the same walk of a drawn region, where some of its operations (moves and extracts: the floats) need not come ahead of the stores -/
import Derived.Test.YtmlhpchabnajkaaGrow
namespace Go.Proofs.Ytmlhpchabnajkaa
set_option linter.unusedSimpArgs false
set_option linter.unusedVariables false
open Go.RowKit
section
variable {P : Program} {ops : Array Oper} {md : Region.Mode} {Le : World → World → Prop} {w0 : World} {Ψ : Nat → Value → World → Prop} {hv : Nat → Option (List Nat)}
def lightB (o : Oper) : Bool := match o.op with | .move _ => true | .extract _ _ => true | _ => false
theorem light_run {o : Oper} (h : lightB o = true) (ev : Operand → Value) : (∃ v, ∀ w, (execOp ev o).run P w = .ok (.value v) w) ∨ (∀ w, ∃ x w', (execOp ev o).run P w = .halt x w') := by
  obtain ⟨dst, op, ty, pos, aft, gd⟩ := o
  cases op <;> simp only [lightB] at h <;> try cases h
  · exact .inl ⟨_, fun w => by simp [execOp]; rfl⟩
  · rename_i tuple index
    simp only [execOp, Instr.extract]
    cases ev tuple with
    | tuple vs =>
      cases hh : vs[index]? with
      | some v => exact .inl ⟨v, fun w => by simp [hh]⟩
      | none => exact .inr fun w => ⟨_, _, by simp [hh, stuck]; exact ⟨rfl, rfl⟩⟩
    | _ => exact .inr fun w => ⟨_, _, by simp [stuck]; exact ⟨rfl, rfl⟩⟩
def wpAnyL (P : Program) (md : Region.Mode) (ops : Array Oper) (Le : World → World → Prop) (w0 : World) (Ψ : Nat → Value → World → Prop) (hv : Nat → Option (List Nat)) (n : Nat → Bool) (L : Array Bool → Act → (Nat → Value) → Prop) : Nat → Array Bool → Act → (Nat → Value) → Prop
  | 0, listed, a, f => L listed a f
  | F + 1, listed, a, f => (∃ i, i ∈ Region.ready md ops listed ∧ n i = true) ∧ ∀ i ∈ Region.ready md ops listed, n i = true → gOp P ops Le w0 Ψ hv i (wpAnyL P md ops Le w0 Ψ hv n L F (listed.setIfInBounds i true)) a f
/-- who waits for no float still waits for all other heads -/
def sinkF (md : Region.Mode) (ops : Array Oper) (n fl : Nat → Bool) : Bool := (List.range ops.size).all fun t => n t || (List.range ops.size).all fun i => !n i || fl i || reachB md ops ops.size t i
def floatB (md : Region.Mode) (ops : Array Oper) (n fl : Nat → Bool) : Bool := (List.range ops.size).all fun i => !fl i || (n i && (match ops[i]? with
  | none => false
  | some oi => lightB oi && (List.range ops.size).all fun j => j == i || reachB md ops ops.size i j || (match ops[j]? with
    | none => true
    | some oj => oj.after.any (fun e => Region.binds md e && e.on == i) || oi.apart ops oj)))
theorem float_spec {n fl : Nat → Bool} (h : floatB md ops n fl = true) {i : Nat} {oi : Oper} (hi : ops[i]? = some oi) (hf : fl i = true) : n i = true ∧ lightB oi = true ∧
    ∀ (j : Nat) (oj : Oper), ops[j]? = some oj → j ≠ i → reachB md ops ops.size i j = false → (∀ e ∈ oj.after, Region.binds md e = true → e.on ≠ i) → oi.apart ops oj = true := by
  have his : i < ops.size := (Array.getElem?_eq_some_iff.1 hi).1
  have h1 := List.all_eq_true.1 h i (List.mem_range.2 his)
  simp only [hf, hi, Bool.not_true, Bool.false_or, Bool.and_eq_true] at h1
  refine ⟨h1.1, h1.2.1, fun j oj hj hne hr hno => ?_⟩
  have h2 := List.all_eq_true.1 h1.2.2 j (List.mem_range.2 (Array.getElem?_eq_some_iff.1 hj).1)
  simp only [hj, hr, Bool.or_false, Bool.or_eq_true, beq_iff_eq, hne, false_or] at h2
  rcases h2 with h2 | h2
  · obtain ⟨e, he, hb⟩ := Array.any_eq_true'.1 h2
    simp only [Bool.and_eq_true, beq_iff_eq] at hb
    exact absurd hb.2 (hno e he hb.1)
  · exact h2
theorem wpAny_of_L (law : Lawful Le Ψ) (hd : depsB md ops hv = true) {n fl : Nat → Bool} {g : Nat} {L : Array Bool → Act → (Nat → Value) → Prop} {Q : Exit → Act → World → Prop} (hsel : ∀ (j : Nat) (o : Oper) cs b, ops[j]? = some o → o.op ≠ .select cs b)
    (hsink : sinkF md ops n fl = true) (hfl : floatB md ops n fl = true) (hQ : ∀ d v c a w, Q (.panic c) (Act.put a d v) w → Q (.panic c) a w)
    (hL : ∀ listed a f W, L listed a f → Le w0 W → Facts Ψ hv listed f W → wpAny P md ops Q g listed a W) :
    ∀ (F : Nat) (listed : Array Bool) (a : Act) (f : Nat → Value) (W : World), GInv md ops listed → wpAnyL P md ops Le w0 Ψ hv n L F listed a f → Le w0 W → Facts Ψ hv listed f W → wpAny P md ops Q (F + g) listed a W
  | 0, listed, a, f, W, _, h, hW, hf => by rw [Nat.zero_add]; exact hL _ _ _ _ h hW hf
  | F + 1, listed, a, f, W, inv, h, hW, hf => by
    rw [show F + 1 + g = (F + g) + 1 by omega]
    have hset : ∀ {i j : Nat}, (listed.setIfInBounds i true).getD j false = true → j ≠ i → listed.getD j false = true := fun {i j} hj hne => by rwa [getD_set_ne false (Ne.symm hne)] at hj
    by_cases hx : ∃ i, i ∈ Region.ready md ops listed ∧ fl i = true
    · obtain ⟨i, hi, hfi⟩ := hx
      obtain ⟨hiun, oi, hoi, hall⟩ := mem_ready.1 hi
      obtain ⟨hni, hlight, hap⟩ := float_spec hfl hoi hfi
      have hg := h.2 i hi hni
      have hfree : ∀ j oj, ops[j]? = some oj → j ≠ i → listed.getD j true = false → (∀ e ∈ oj.after, Region.binds md e = true → e.on ≠ i) → oi.apart ops oj = true := fun j oj hj hne hun hno => by
        refine hap j oj hj hne ?_ hno
        cases hr : reachB md ops ops.size i j with
        | false => rfl
        | true =>
          have := reach_listed inv _ _ _ hr (fun o ho e he hb => by
            have : o = oi := Option.some.inj (ho.symm.trans hoi)
            subst this
            exact hall e he hb)
          rw [getD_both hun] at this
          cases this
      unfold gOp at hg
      simp only [hoi] at hg
      have hlr := light_run (P := P) hlight a.eval
      cases hq : hv i with
      | none =>
        simp only [hq] at hg
        have hF : Facts Ψ hv (listed.setIfInBounds i true) f W := fun k ds hh hl => hf k ds hh (hset hl (fun e => by subst e; rw [hq] at hh; cases hh))
        by_cases hw : Region.wanted oi (yielded ops a.tmps) = true
        · simp only [hw, if_true] at hg
          obtain ⟨v, h1, h2⟩ := hg
          have h3 := h1 ⟨W, hW⟩
          simp only at h3
          rcases hlr with ⟨u, hu⟩ | hh
          · rw [hu W] at h3
            simp only [sameUpon] at h3
            obtain ⟨_, rfl⟩ := h3
            exact wpAny_first hoi hsel (fun c a w => hQ _ _ c a w) (F + g) listed a W hfree hi (.inl ⟨hw, hu⟩) (wpAny_of_L law hd hsel hsink hfl hQ hL F _ _ _ _ (inv.set hi) h2 hW hF)
          · obtain ⟨x, w', e⟩ := hh W
            rw [e] at h3
            simp only [sameUpon] at h3
        · simp only [hw] at hg
          exact wpAny_first hoi hsel (fun c a w => hQ _ _ c a w) (F + g) listed a W hfree hi (.inr ⟨by simpa using hw, rfl⟩) (wpAny_of_L law hd hsel hsink hfl hQ hL F _ _ _ _ (inv.set hi) hg hW hF)
      | some ds =>
        simp only [hq] at hg
        obtain ⟨hw, h1, h2⟩ := hg
        have hpre : factsOf Ψ ds f W := fun k hh => by
          obtain ⟨⟨ds', hds'⟩, _⟩ := depsB_spec hd hoi hq hh
          exact hf k ds' hds' (deps_listed hd hi hq hh)
        have h3 := h1 ⟨W, hW⟩ hpre
        simp only at h3
        rcases hlr with ⟨u, hu⟩ | hh
        · rw [hu W] at h3
          simp only [growUpon] at h3
          have hF : Facts Ψ hv (listed.setIfInBounds i true) (upd f i u) W := fun k ds' hh hl => by
            by_cases e : k = i
            · subst e; rw [upd_same]; exact h3.2
            · rw [upd_other _ _ e]; exact hf k ds' hh (hset hl e)
          exact wpAny_first hoi hsel (fun c a w => hQ _ _ c a w) (F + g) listed a W hfree hi (.inl ⟨hw, hu⟩) (wpAny_of_L law hd hsel hsink hfl hQ hL F _ _ _ _ (inv.set hi) (h2 u) hW hF)
        · obtain ⟨x, w', e⟩ := hh W
          rw [e] at h3
          simp only [growUpon] at h3
    obtain ⟨i0, hi0, hn0⟩ := h.1
    have hallN : ∀ j ∈ Region.ready md ops listed, n j = true := fun j hj => by
      obtain ⟨_, oj, hoj, hall⟩ := mem_ready.1 hj
      have h1 := List.all_eq_true.1 hsink j (List.mem_range.2 (Array.getElem?_eq_some_iff.1 hoj).1)
      simp only [Bool.or_eq_true] at h1
      rcases h1 with h1 | h1
      · exact h1
      · obtain ⟨hun0, o0, ho0, _⟩ := mem_ready.1 hi0
        have h2 := List.all_eq_true.1 h1 i0 (List.mem_range.2 (Array.getElem?_eq_some_iff.1 ho0).1)
        have hf0 : fl i0 = false := by
          cases e : fl i0 with
          | false => rfl
          | true => exact absurd ⟨i0, hi0, e⟩ hx
        simp only [hn0, hf0, Bool.not_true, Bool.false_or] at h2
        have h3 := reach_listed inv _ _ _ h2 (fun o ho e he hb => by
          have : o = oj := Option.some.inj (ho.symm.trans hoj)
          subst this
          exact hall e he hb)
        rw [getD_both hun0] at h3
        cases h3
    refine ⟨fun h0 => (by rw [h0] at hi0; cases hi0), fun i hi => ?_⟩
    have hg := h.2 i hi (hallN i hi)
    unfold gOp at hg
    unfold wpOp
    split
    · rename_i ho
      obtain ⟨_, o, ho', _⟩ := mem_ready.1 hi
      rw [ho] at ho'
      cases ho'
    · rename_i o ho
      simp only [ho] at hg
      cases hq : hv i with
      | none =>
        simp only [hq] at hg
        have hF : ∀ {W'}, Le W W' → Facts Ψ hv (listed.setIfInBounds i true) f W' := fun {W'} hle k ds hh hl => law.stable hle (hf k ds hh (hset hl (fun e => by subst e; rw [hq] at hh; cases hh)))
        split
        · rename_i hw
          simp only [hw, if_true] at hg
          obtain ⟨v, h1, h2⟩ := hg
          have h3 := h1 ⟨W, hW⟩
          refine .inl ?_
          unfold Oper.wp
          simp only at h3
          generalize (execOp a.eval o).run P W = r at *
          cases r with
          | ok nx W' =>
            cases nx <;> simp only [sameUpon] at h3 <;> simp only [Oper.upon]
            case value u => rw [h3.2]; exact wpAny_of_L law hd hsel hsink hfl hQ hL F _ _ _ _ (inv.set hi) h2 (law.trans hW h3.1) (hF h3.1)
            case skip => rw [h3.2] at h2; exact wpAny_of_L law hd hsel hsink hfl hQ hL F _ _ _ _ (inv.set hi) h2 (law.trans hW h3.1) (hF h3.1)
          | halt x W' => simp only [sameUpon] at h3
        · rename_i hw
          simp only [hw] at hg
          exact wpAny_of_L law hd hsel hsink hfl hQ hL F _ _ _ _ (inv.set hi) hg hW (fun k ds hh hl => hf k ds hh (hset hl (fun e => by subst e; rw [hq] at hh; cases hh)))
      | some ds =>
        simp only [hq] at hg
        obtain ⟨hw, h1, h2⟩ := hg
        have hpre : factsOf Ψ ds f W := fun k hh => by
          obtain ⟨⟨ds', hds'⟩, _⟩ := depsB_spec hd ho hq hh
          exact hf k ds' hds' (deps_listed hd hi hq hh)
        have h3 := h1 ⟨W, hW⟩ hpre
        have hF : ∀ {v W'}, Le W W' → Ψ i v W' → Facts Ψ hv (listed.setIfInBounds i true) (upd f i v) W' := fun {v W'} hle hv' k ds' hh hl => by
          by_cases e : k = i
          · subst e; rw [upd_same]; exact hv'
          · rw [upd_other _ _ e]; exact law.stable hle (hf k ds' hh (hset hl e))
        simp only [hw, if_true]
        refine .inl ?_
        unfold Oper.wp
        simp only at h3
        generalize (execOp a.eval o).run P W = r at *
        cases r with
        | ok nx W' =>
          cases nx <;> simp only [growUpon] at h3 <;> simp only [Oper.upon]
          case value u => exact wpAny_of_L law hd hsel hsink hfl hQ hL F _ _ _ _ (inv.set hi) (h2 u) (law.trans hW h3.1) (hF h3.1 h3.2)
          case enter fn args =>
            refine h3.2.mono fun e W'' he => ?_
            obtain ⟨v, rfl, hle, hp⟩ := he
            exact wpAny_of_L law hd hsel hsink hfl hQ hL F _ _ _ _ (inv.set hi) (h2 v) (law.trans hW (law.trans h3.1 hle)) (hF (law.trans h3.1 hle) hp)
        | halt x W' => simp only [growUpon] at h3
theorem wpAnyL_weaken {n : Nat → Bool} {L L' : Array Bool → Act → (Nat → Value) → Prop} (h : ∀ listed a f, L listed a f → L' listed a f) : ∀ (F : Nat) (listed : Array Bool) (a : Act) (f : Nat → Value), wpAnyL P md ops Le w0 Ψ hv n L F listed a f → wpAnyL P md ops Le w0 Ψ hv n L' F listed a f
  | 0, _, _, _, hh => h _ _ _ hh
  | F + 1, _, _, _, hh => ⟨hh.1, fun i hi hn => gOp_mono (fun a' f' h' => wpAnyL_weaken h F _ a' f' h') (hh.2 i hi hn)⟩
theorem wpAnyL_first (hrefl : Le w0 w0) (hd : depsB md ops hv = true) {n : Nat → Bool} {i : Nat} {oi : Oper} {L : Array Bool → Act → (Nat → Value) → Prop} (hi : ops[i]? = some oi) (hsel : ∀ (j : Nat) (o : Oper) cs b, ops[j]? = some o → o.op ≠ .select cs b)
    (hin : n i = true) (hLk : ∀ listed a f, L listed a f → ∀ j ∈ Region.ready md ops listed, n j = false) :
    ∀ (F : Nat) (listed : Array Bool) (a : Act) (f : Nat → Value), GInv md ops listed →
      (∀ j oj, ops[j]? = some oj → j ≠ i → listed.getD j true = false → (∀ e ∈ oj.after, Region.binds md e = true → e.on ≠ i) → oi.apart ops oj = true) →
      i ∈ Region.ready md ops listed → gOp P ops Le w0 Ψ hv i (wpAnyL P md ops Le w0 Ψ hv n L F (listed.setIfInBounds i true)) a f → wpAnyL P md ops Le w0 Ψ hv n L (F + 1) listed a f := by
  intro F
  have gsome : ∀ {K : Act → (Nat → Value) → Prop} {a : Act} {f : Nat → Value}, gOp P ops Le w0 Ψ hv i K a f → ∃ a' f', K a' f' := fun {K a f} h => by
    unfold gOp at h
    simp only [hi] at h
    cases q : hv i with
    | none =>
      simp only [q] at h
      by_cases wi : Region.wanted oi (yielded ops a.tmps) = true
      · simp only [wi, if_true] at h; obtain ⟨v, _, h2⟩ := h; exact ⟨_, _, h2⟩
      · simp only [wi] at h; exact ⟨_, _, h⟩
    | some ds => simp only [q] at h; exact ⟨_, _, h.2.2 undef⟩
  induction F with
  | zero =>
    intro listed a f inv hfree hr H
    refine ⟨⟨i, hr, hin⟩, fun j hj hjn => ?_⟩
    by_cases hji : j = i
    · subst hji; exact H
    · exfalso
      obtain ⟨a', f', hL⟩ := gsome H
      have := hLk _ _ _ hL j (ready_mono hj hji)
      rw [hjn] at this
      cases this
  | succ F ih =>
    intro listed a f inv hfree hr H
    refine ⟨⟨i, hr, hin⟩, fun j hj hjn => ?_⟩
    by_cases hji : j = i
    · subst hji; exact H
    · obtain ⟨hjun, oj, hoj, hall⟩ := mem_ready.1 hj
      have hiun := (mem_ready.1 hr).1
      have hnot : ∀ e ∈ oj.after, Region.binds md e = true → e.on ≠ i := fun e he hb heq => by
        have h1 := hall e he hb
        rw [heq, getD_both hiun] at h1
        cases h1
      have hap := hfree j oj hoj hji hjun hnot
      have H1 : gOp P ops Le w0 Ψ hv i (fun a' f' => gOp P ops Le w0 Ψ hv j (wpAnyL P md ops Le w0 Ψ hv n L F ((listed.setIfInBounds i true).setIfInBounds j true)) a' f') a f :=
        gOp_mono (fun a' f' h => h.2 j (ready_mono hj hji) hjn) H
      have H2 := gOp_swap hrefl hji hi hoj hap (fun cs b => hsel i oi cs b hi) (fun cs b => hsel j oj cs b hoj)
        (fun ds e hm => by have := deps_listed hd hr e hm; rw [getD_both hjun] at this; cases this)
        (fun ds e hm => by have := deps_listed hd hj e hm; rw [getD_both hiun] at this; cases this) H1
      have hfree' : ∀ k ok, ops[k]? = some ok → k ≠ i → (listed.setIfInBounds j true).getD k true = false →
          (∀ e ∈ ok.after, Region.binds md e = true → e.on ≠ i) → oi.apart ops ok = true := fun k ok hk hki hun hno => by
        refine hfree k ok hk hki ?_ hno
        by_cases hjk : j = k
        · subst hjk; exact hjun
        · rw [getD_set_ne true hjk] at hun; exact hun
      refine gOp_mono (fun a' f' h => ih (listed.setIfInBounds j true) a' f' (inv.set hj) hfree' (ready_mono hr (Ne.symm hji)) ?_) H2
      rw [Array.setIfInBounds_comm _ _ hji]
      exact h
theorem wpAnyL_lex (hrefl : Le w0 w0) {l : List Oper} (hd : depsB md l.toArray hv = true) {n : Nat → Bool} {tail : List Nat} {R : Act → (Nat → Value) → Prop} (hsel : Region.noSelect l.toArray = true) (hnt : ∀ t ∈ tail, n t = false) :
    ∀ (hd' : List Nat) (listed : Array Bool) (a : Act) (f : Nat → Value), (∀ i ∈ hd', n i = true) → GInv md l.toArray listed → ordHead md l.toArray tail hd' listed = true → wpG P l.toArray Le w0 Ψ hv R (pickOps l hd') a f →
    wpAnyL P md l.toArray Le w0 Ψ hv n (fun listed' a' f' => seqT md l.toArray tail listed' = true ∧ R a' f' ∧ (∀ i ∈ hd', listed'.getD i false = true) ∧ (∀ i, listed.getD i false = true → listed'.getD i false = true)) hd'.length listed a f
  | [], listed, a, f, _, _, hB, h => ⟨by simpa [ordHead] using hB, h, fun i hi => (by cases hi), fun i h => h⟩
  | k :: hd', listed, a, f, hn, inv, hB, h => by
    simp only [ordHead, Bool.and_eq_true] at hB
    obtain ⟨⟨hr, hf⟩, hB'⟩ := hB
    have hr' : k ∈ Region.ready md l.toArray listed := by simpa using hr
    obtain ⟨_, o, h0, _⟩ := mem_ready.1 hr'
    have h0' : l[k]? = some o := by simpa using h0
    have hp : pickOps l (k :: hd') = (k, o) :: pickOps l hd' := by simp only [pickOps, h0']
    rw [hp] at h
    have hks : k < listed.size := by rw [inv.size]; exact (Array.getElem?_eq_some_iff.1 h0).1
    have hself : (listed.setIfInBounds k true).getD k false = true := by simp [hks]
    have hg : gOp P l.toArray Le w0 Ψ hv k (wpG P l.toArray Le w0 Ψ hv R (pickOps l hd')) a f := by
      unfold gOp
      simp only [h0]
      unfold wpG at h
      exact h
    refine wpAnyL_first hrefl hd h0 (Region.noSelect_spec hsel) (hn k (by simp)) (fun listed' a' f' hL => seqT_ready hnt hL.1) hd'.length listed a f inv (Region.free_spec h0 hf) hr' (gOp_mono (fun a' f' h' => ?_) hg)
    have IH := wpAnyL_lex hrefl hd hsel hnt hd' _ a' f' (fun i hi => hn i (List.mem_cons_of_mem _ hi)) (inv.set hr') hB' h'
    refine wpAnyL_weaken (fun listed' a' f' hh => ⟨hh.1, hh.2.1, fun i hi => ?_, fun i hi => hh.2.2.2 i (getD_set_true hi)⟩) _ _ _ _ IH
    rcases List.mem_cons.1 hi with e | hi
    · subst e; exact hh.2.2.2 i hself
    · exact hh.2.2.1 i hi
def growL (md : Region.Mode) (ops : Array Oper) (hd fls tail : List Nat) : Bool :=
  Region.noSelect ops && decide (hd.length + tail.length = ops.size) && sinkF md ops (fun i => hd.contains i) (fun i => fls.contains i) && floatB md ops (fun i => hd.contains i) (fun i => fls.contains i) && tail.all (fun t => !hd.contains t) && ordHead md ops tail hd (Array.replicate ops.size false)
/-- one walk serves every order: hd: the operations that let memory grow, in one order; fls: those of them (moves, extracts) that may come late; tail: those behind all others -/
theorem wp_region_growL {id : Nat} {Q : Exit → Act → World → Prop} {a : Act} {w : World} {l : List Oper} (hd fls tail : List Nat) (Le : World → World → Prop) (Ψ : Nat → Value → World → Prop) (hv : Nat → Option (List Nat)) (hm : P.follows .mixedOrders = true) (hB : growL .any l.toArray hd fls tail = true)
    (hdep : depsB .any l.toArray hv = true) (law : Lawful Le Ψ) (hrefl : Le w.drew w.drew) (hQ : ∀ d v c a w, Q (.panic c) (Act.put a d v) w → Q (.panic c) a w)
    (h : wpG P l.toArray Le w.drew Ψ hv (fun a' f => ∀ p : LaterG Le w.drew, (∀ h ds, h ∈ hd → hv h = some ds → Ψ h (f h) p.W) → wpList P l.toArray Q ((pickOps l tail).map (·.2)) a' p.W) (pickOps l hd) a (fun _ => undef)) : (Code.region id l.toArray true).wp P Q a w := by
  simp only [growL, Bool.and_eq_true, decide_eq_true_eq] at hB
  obtain ⟨⟨⟨⟨⟨hsel, hlen⟩, hs⟩, hfl⟩, hnt⟩, hord⟩ := hB
  have hnt' : ∀ t ∈ tail, (fun i => hd.contains i) t = false := fun t ht => by
    have := List.all_eq_true.1 hnt t ht
    simpa using this
  have inv0 : GInv .any l.toArray (Array.replicate l.toArray.size false) := ⟨by simp, fun j oj _ hl => (by rw [getD_replicate_false] at hl; cases hl)⟩
  have H := wpAnyL_lex (md := .any) (l := l) (n := fun i => hd.contains i) hrefl hdep hsel hnt' hd _ a _ (fun i hi => by simpa using hi) inv0 hord h
  refine wp_region_any hm ?_
  have := wpAny_of_L (Q := Q) (g := tail.length) law hdep (Region.noSelect_spec hsel) hs hfl hQ (fun listed a' f W hL hW hF => wpAny_of_seqT (md := .any) (Q := Q) tail listed a' W hL.1 (hL.2.1 ⟨W, hW⟩ (fun h ds hn e => hF h ds e (hL.2.2.1 h hn)))) _ _ _ _ w.drew inv0 H hrefl (fun h ds _ hl => by rw [getD_replicate_false] at hl; cases hl)
  rw [hlen] at this
  exact this
end
end Go.Proofs.Ytmlhpchabnajkaa
