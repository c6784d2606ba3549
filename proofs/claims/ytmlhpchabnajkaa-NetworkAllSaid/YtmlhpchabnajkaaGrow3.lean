/- the walk of a drawn region once more, with one invariant over all that has come up (in place of a property for each) -/
import Derived.Test.YtmlhpchabnajkaaGrow2
namespace Go.Proofs.Ytmlhpchabnajkaa
set_option linter.unusedSimpArgs false
set_option linter.unusedVariables false
open Go.RowKit
def updS (s : Nat → Bool) (k : Nat) : Nat → Bool := fun j => if j = k then true else s j
section
variable {P : Program} {ops : Array Oper} {md : Region.Mode} {Le : World → World → Prop} {w0 : World} {I : (Nat → Bool) → (Nat → Value) → World → Prop} {hv : Nat → Option (List Nat)}
def gheavyI (P : Program) (Le : World → World → Prop) (w0 : World) (I : (Nat → Bool) → (Nat → Value) → World → Prop) (ds : List Nat) (k : Nat) (o : Oper) (a : Act) (f : Nat → Value) : Prop :=
  ∀ (p : LaterG Le w0) (s : Nat → Bool) (f' : Nat → Value), (∀ h ∈ ds, s h = true ∧ f' h = f h) → s k = false → I s f' p.W → growUpon P Le (fun v W' => I (updS s k) (upd f' k v) W') p.W ((execOp a.eval o).run P p.W)
def gOpI (P : Program) (ops : Array Oper) (Le : World → World → Prop) (w0 : World) (I : (Nat → Bool) → (Nat → Value) → World → Prop) (hv : Nat → Option (List Nat)) (i : Nat) (K : Act → (Nat → Value) → Prop) (a : Act) (f : Nat → Value) : Prop :=
  match ops[i]? with
  | none => K a f
  | some o => match hv i with
    | none => if Region.wanted o (yielded ops a.tmps) = true then gquiet P Le w0 o a (fun a' => K a' f) else K (a.put o.dst undef) f
    | some ds => Region.wanted o (yielded ops a.tmps) = true ∧ gheavyI P Le w0 I ds i o a f ∧ ∀ v, K (a.put o.dst v) (upd f i v)
def wpGI (P : Program) (ops : Array Oper) (Le : World → World → Prop) (w0 : World) (I : (Nat → Bool) → (Nat → Value) → World → Prop) (hv : Nat → Option (List Nat)) (R : Act → (Nat → Value) → Prop) : List (Nat × Oper) → Act → (Nat → Value) → Prop
  | [], a, f => R a f
  | (k, o) :: rest, a, f => match hv k with
    | none => if Region.wanted o (yielded ops a.tmps) = true then gquiet P Le w0 o a (fun a' => wpGI P ops Le w0 I hv R rest a' f) else wpGI P ops Le w0 I hv R rest (a.put o.dst undef) f
    | some ds => Region.wanted o (yielded ops a.tmps) = true ∧ gheavyI P Le w0 I ds k o a f ∧ ∀ v, wpGI P ops Le w0 I hv R rest (a.put o.dst v) (upd f k v)
theorem gheavyI_put {ds : List Nat} {k : Nat} {o : Oper} (hs : ∀ cs b, o.op ≠ .select cs b) {a : Act} {dst : Option Tmp} {v : Value} {f : Nat → Value} (h : ∀ d, dst = some d → d ∉ o.looksAt ops) : gheavyI P Le w0 I ds k o (a.put dst v) f ↔ gheavyI P Le w0 I ds k o a f := by
  unfold gheavyI
  rw [execOp_put (ops := ops) o hs a dst v h]
theorem gheavyI_congr {ds : List Nat} {k : Nat} {o : Oper} {a : Act} {f f2 : Nat → Value} (h : ∀ k ∈ ds, f2 k = f k) (hh : gheavyI P Le w0 I ds k o a f) : gheavyI P Le w0 I ds k o a f2 := fun p s f' hd hk hI =>
  hh p s f' (fun k hk => ⟨(hd k hk).1, (hd k hk).2.trans (h k hk)⟩) hk hI
structure LawfulI (Le : World → World → Prop) (I : (Nat → Bool) → (Nat → Value) → World → Prop) : Prop where
  trans : ∀ {a b c}, Le a b → Le b c → Le a c
  stable : ∀ {s f W W'}, Le W W' → I s f W → I s f W'
def lst (hv : Nat → Option (List Nat)) (listed : Array Bool) : Nat → Bool := fun k => listed.getD k false && (hv k).isSome
theorem lst_quiet {listed : Array Bool} {i : Nat} (h : hv i = none) : lst hv (listed.setIfInBounds i true) = lst hv listed := by
  funext k
  unfold lst
  by_cases e : k = i
  · subst e; rw [h]; simp
  · rw [getD_set_ne false (Ne.symm e)]
theorem lst_heavy {listed : Array Bool} {i : Nat} {ds : List Nat} (h : hv i = some ds) (hs : i < listed.size) : lst hv (listed.setIfInBounds i true) = updS (lst hv listed) i := by
  funext k
  unfold lst updS
  by_cases e : k = i
  · subst e; rw [h]; simp [hs]
  · rw [getD_set_ne false (Ne.symm e), if_neg e]
theorem gOpI_mono {i : Nat} {K K' : Act → (Nat → Value) → Prop} {a : Act} {f : Nat → Value} (h : ∀ a f, K a f → K' a f) (hh : gOpI P ops Le w0 I hv i K a f) : gOpI P ops Le w0 I hv i K' a f := by
  unfold gOpI at *
  split
  · rename_i ho; simp only [ho] at hh; exact h _ _ hh
  · rename_i o ho
    simp only [ho] at hh
    split
    · rename_i hq
      simp only [hq] at hh
      split
      · rename_i hw; simp only [hw, if_true] at hh; obtain ⟨v, h1, h2⟩ := hh; exact ⟨v, h1, h _ _ h2⟩
      · rename_i hw; simp only [hw] at hh; exact h _ _ hh
    · rename_i ds hq
      simp only [hq] at hh
      exact ⟨hh.1, hh.2.1, fun v => h _ _ (hh.2.2 v)⟩

theorem gOpI_swap (hrefl : Le w0 w0) {i j : Nat} {oi oj : Oper} (hij : j ≠ i) (hi : ops[i]? = some oi) (hj : ops[j]? = some oj) (hap : oi.apart ops oj = true) (hsi : ∀ cs b, oi.op ≠ .select cs b) (hsj : ∀ cs b, oj.op ≠ .select cs b)
    (hdi : ∀ ds, hv i = some ds → j ∉ ds) (hdj : ∀ ds, hv j = some ds → i ∉ ds) {K : Act → (Nat → Value) → Prop} {a : Act} {f : Nat → Value}
    (h : gOpI P ops Le w0 I hv i (fun a' f' => gOpI P ops Le w0 I hv j K a' f') a f) : gOpI P ops Le w0 I hv j (fun a' f' => gOpI P ops Le w0 I hv i K a' f') a f := by
  obtain ⟨h1, h2, h3⟩ := Oper.apart_spec hap
  have hwi : ∀ (a : Act) u, Region.wanted oi (yielded ops (a.put oj.dst u).tmps) = Region.wanted oi (yielded ops a.tmps) := fun a u => wanted_put oi a oj.dst u h3
  have hwj : ∀ (a : Act) u, Region.wanted oj (yielded ops (a.put oi.dst u).tmps) = Region.wanted oj (yielded ops a.tmps) := fun a u => wanted_put oj a oi.dst u h1
  have hcom : ∀ (a : Act) v u, (a.put oi.dst v).put oj.dst u = (a.put oj.dst u).put oi.dst v := fun a v u => Act.put_comm a v u h2
  unfold gOpI at h ⊢
  simp only [hi, hj] at h ⊢
  cases qi : hv i with
  | none =>
    simp only [qi] at h ⊢
    by_cases wi : Region.wanted oi (yielded ops a.tmps) = true
    · simp only [wi, if_true] at h
      obtain ⟨v, hy, hK⟩ := h
      cases qj : hv j with
      | none =>
        simp only [qj] at hK ⊢
        rw [hwj] at hK
        by_cases wj : Region.wanted oj (yielded ops a.tmps) = true
        · simp only [wj, if_true] at hK ⊢
          obtain ⟨u, hu, hn⟩ := hK
          refine ⟨u, (gquietAt_put hsj h1).1 hu, ?_⟩
          dsimp only
          rw [hwi]
          simp only [wi, if_true]
          exact ⟨v, (gquietAt_put hsi h3).2 hy, by rw [← hcom]; exact hn⟩
        · simp only [wj] at hK ⊢
          rw [hwi]
          simp only [wi, if_true]
          exact ⟨v, (gquietAt_put hsi h3).2 hy, by rw [← hcom]; exact hK⟩
      | some ds =>
        simp only [qj] at hK ⊢
        rw [hwj] at hK
        refine ⟨hK.1, (gheavyI_put hsj h1).1 hK.2.1, fun u => ?_⟩
        rw [hwi]
        simp only [wi, if_true]
        exact ⟨v, (gquietAt_put hsi h3).2 hy, by rw [← hcom]; exact hK.2.2 u⟩
    · simp only [wi] at h
      cases qj : hv j with
      | none =>
        simp only [qj] at h ⊢
        rw [hwj] at h
        by_cases wj : Region.wanted oj (yielded ops a.tmps) = true
        · simp only [wj, if_true] at h ⊢
          obtain ⟨u, hu, hn⟩ := h
          refine ⟨u, (gquietAt_put hsj h1).1 hu, ?_⟩
          dsimp only
          rw [hwi]
          simp only [wi]
          rw [← hcom]; exact hn
        · simp only [wj] at h ⊢
          rw [hwi]
          simp only [wi]
          rw [← hcom]; exact h
      | some ds =>
        simp only [qj] at h ⊢
        rw [hwj] at h
        refine ⟨h.1, (gheavyI_put hsj h1).1 h.2.1, fun u => ?_⟩
        rw [hwi]
        simp only [wi]
        rw [← hcom]; exact h.2.2 u
  | some di =>
    simp only [qi] at h ⊢
    obtain ⟨wi, hy, hK⟩ := h
    cases qj : hv j with
    | none =>
      simp only [qj] at hK ⊢
      by_cases wj : Region.wanted oj (yielded ops a.tmps) = true
      · simp only [wj, if_true]
        have hK' : ∀ v, ∃ u, gquietAt P Le w0 oj a u ∧ K ((a.put oi.dst v).put oj.dst u) (upd f i v) := fun v => by
          have := hK v
          rw [hwj] at this
          simp only [wj, if_true] at this
          obtain ⟨u, hu, hn⟩ := this
          exact ⟨u, (gquietAt_put hsj h1).1 hu, hn⟩
        obtain ⟨u, hu, _⟩ := hK' undef
        refine ⟨u, hu, by rw [hwi]; exact wi, (gheavyI_put hsi h3).2 hy, fun v => ?_⟩
        obtain ⟨u', hu', hn⟩ := hK' v
        rw [gquietAt_one hrefl hu hu', ← hcom]
        exact hn
      · simp only [wj]
        refine ⟨by rw [hwi]; exact wi, (gheavyI_put hsi h3).2 hy, fun v => ?_⟩
        have := hK v
        rw [hwj] at this
        simp only [wj] at this
        rw [← hcom]; exact this
    | some dj =>
      simp only [qj] at hK ⊢
      have k0 := hK undef
      rw [hwj] at k0
      refine ⟨k0.1, gheavyI_congr (fun h hh => (upd_other _ _ (fun e => hdj dj qj (by rw [← e]; exact hh))).symm) ((gheavyI_put hsj h1).1 k0.2.1), fun u => ⟨by rw [hwi]; exact wi, ?_, fun v => ?_⟩⟩
      · exact gheavyI_congr (fun h hh => upd_other _ _ (fun e => hdi di qi (by rw [← e]; exact hh))) ((gheavyI_put hsi h3).2 hy)
      · have := (hK v).2.2 u
        rw [upd_comm f v u (Ne.symm hij), hcom] at this
        exact this

def wpAnyM (P : Program) (md : Region.Mode) (ops : Array Oper) (Le : World → World → Prop) (w0 : World) (I : (Nat → Bool) → (Nat → Value) → World → Prop) (hv : Nat → Option (List Nat)) (n : Nat → Bool) (L : Array Bool → Act → (Nat → Value) → Prop) : Nat → Array Bool → Act → (Nat → Value) → Prop
  | 0, listed, a, f => L listed a f
  | F + 1, listed, a, f => (∃ i, i ∈ Region.ready md ops listed ∧ n i = true) ∧ ∀ i ∈ Region.ready md ops listed, n i = true → gOpI P ops Le w0 I hv i (wpAnyM P md ops Le w0 I hv n L F (listed.setIfInBounds i true)) a f
theorem wpAny_of_M (law : LawfulI Le I) (hd : depsB md ops hv = true) {n fl : Nat → Bool} {g : Nat} {L : Array Bool → Act → (Nat → Value) → Prop} {Q : Exit → Act → World → Prop} (hsel : ∀ (j : Nat) (o : Oper) cs b, ops[j]? = some o → o.op ≠ .select cs b)
    (hsink : sinkF md ops n fl = true) (hfl : floatB md ops n fl = true) (hQ : ∀ d v c a w, Q (.panic c) (Act.put a d v) w → Q (.panic c) a w)
    (hL : ∀ listed a f W, L listed a f → Le w0 W → I (lst hv listed) f W → wpAny P md ops Q g listed a W) :
    ∀ (F : Nat) (listed : Array Bool) (a : Act) (f : Nat → Value) (W : World), GInv md ops listed → wpAnyM P md ops Le w0 I hv n L F listed a f → Le w0 W → I (lst hv listed) f W → wpAny P md ops Q (F + g) listed a W
  | 0, listed, a, f, W, _, h, hW, hf => by rw [Nat.zero_add]; exact hL _ _ _ _ h hW hf
  | F + 1, listed, a, f, W, inv, h, hW, hf => by
    rw [show F + 1 + g = (F + g) + 1 by omega]
    have hset : ∀ {i j : Nat}, (listed.setIfInBounds i true).getD j false = true → j ≠ i → listed.getD j false = true := fun {i j} hj hne => by rwa [getD_set_ne false (Ne.symm hne)] at hj
    by_cases hx : ∃ i, i ∈ Region.ready md ops listed ∧ fl i = true
    · obtain ⟨i, hi, hfi⟩ := hx
      obtain ⟨hiun, oi, hoi, hall⟩ := mem_ready.1 hi
      obtain ⟨hni, hlight, hap⟩ := float_spec hfl hoi hfi
      have hg := h.2 i hi hni
      have hfree : ∀ j oj, ops[j]? = some oj → j ≠ i → listed.getD j true = false → (∀ e ∈ oj.after, Region.binds md e = true → e.on ≠ i) → oi.apart ops oj = true := fun j oj hj hne hun hno => by
        refine hap j oj hj hne ?_ hno
        cases hr : reachB md ops ops.size i j with
        | false => rfl
        | true =>
          have := reach_listed inv _ _ _ hr (fun o ho e he hb => by
            have : o = oi := Option.some.inj (ho.symm.trans hoi)
            subst this
            exact hall e he hb)
          rw [getD_both hun] at this
          cases this
      unfold gOpI at hg
      simp only [hoi] at hg
      have hlr := light_run (P := P) hlight a.eval
      cases hq : hv i with
      | none =>
        simp only [hq] at hg
        have hF : I (lst hv (listed.setIfInBounds i true)) f W := by rw [lst_quiet hq]; exact hf
        by_cases hw : Region.wanted oi (yielded ops a.tmps) = true
        · simp only [hw, if_true] at hg
          obtain ⟨v, h1, h2⟩ := hg
          have h3 := h1 ⟨W, hW⟩
          simp only at h3
          rcases hlr with ⟨u, hu⟩ | hh
          · rw [hu W] at h3
            simp only [sameUpon] at h3
            obtain ⟨_, rfl⟩ := h3
            exact wpAny_first hoi hsel (fun c a w => hQ _ _ c a w) (F + g) listed a W hfree hi (.inl ⟨hw, hu⟩) (wpAny_of_M law hd hsel hsink hfl hQ hL F _ _ _ _ (inv.set hi) h2 hW hF)
          · obtain ⟨x, w', e⟩ := hh W
            rw [e] at h3
            simp only [sameUpon] at h3
        · simp only [hw] at hg
          exact wpAny_first hoi hsel (fun c a w => hQ _ _ c a w) (F + g) listed a W hfree hi (.inr ⟨by simpa using hw, rfl⟩) (wpAny_of_M law hd hsel hsink hfl hQ hL F _ _ _ _ (inv.set hi) hg hW hF)
      | some ds =>
        simp only [hq] at hg
        obtain ⟨hw, h1, h2⟩ := hg
        have h3 := h1 ⟨W, hW⟩ (lst hv listed) f (fun k hh => ⟨by
          obtain ⟨⟨ds', hds'⟩, _⟩ := depsB_spec hd hoi hq hh
          simp [lst, hds', deps_listed hd hi hq hh], rfl⟩) (by unfold lst; rw [getD_both (mem_ready.1 hi).1]; rfl) hf
        simp only at h3
        rcases hlr with ⟨u, hu⟩ | hh
        · rw [hu W] at h3
          simp only [growUpon] at h3
          have hF : I (lst hv (listed.setIfInBounds i true)) (upd f i u) W := by rw [lst_heavy hq (by rw [inv.size]; exact (Array.getElem?_eq_some_iff.1 hoi).1)]; exact h3.2
          exact wpAny_first hoi hsel (fun c a w => hQ _ _ c a w) (F + g) listed a W hfree hi (.inl ⟨hw, hu⟩) (wpAny_of_M law hd hsel hsink hfl hQ hL F _ _ _ _ (inv.set hi) (h2 u) hW hF)
        · obtain ⟨x, w', e⟩ := hh W
          rw [e] at h3
          simp only [growUpon] at h3
    obtain ⟨i0, hi0, hn0⟩ := h.1
    have hallN : ∀ j ∈ Region.ready md ops listed, n j = true := fun j hj => by
      obtain ⟨_, oj, hoj, hall⟩ := mem_ready.1 hj
      have h1 := List.all_eq_true.1 hsink j (List.mem_range.2 (Array.getElem?_eq_some_iff.1 hoj).1)
      simp only [Bool.or_eq_true] at h1
      rcases h1 with h1 | h1
      · exact h1
      · obtain ⟨hun0, o0, ho0, _⟩ := mem_ready.1 hi0
        have h2 := List.all_eq_true.1 h1 i0 (List.mem_range.2 (Array.getElem?_eq_some_iff.1 ho0).1)
        have hf0 : fl i0 = false := by
          cases e : fl i0 with
          | false => rfl
          | true => exact absurd ⟨i0, hi0, e⟩ hx
        simp only [hn0, hf0, Bool.not_true, Bool.false_or] at h2
        have h3 := reach_listed inv _ _ _ h2 (fun o ho e he hb => by
          have : o = oj := Option.some.inj (ho.symm.trans hoj)
          subst this
          exact hall e he hb)
        rw [getD_both hun0] at h3
        cases h3
    refine ⟨fun h0 => (by rw [h0] at hi0; cases hi0), fun i hi => ?_⟩
    have hg := h.2 i hi (hallN i hi)
    unfold gOpI at hg
    unfold wpOp
    split
    · rename_i ho
      obtain ⟨_, o, ho', _⟩ := mem_ready.1 hi
      rw [ho] at ho'
      cases ho'
    · rename_i o ho
      simp only [ho] at hg
      cases hq : hv i with
      | none =>
        simp only [hq] at hg
        have hF : ∀ {W'}, Le W W' → I (lst hv (listed.setIfInBounds i true)) f W' := fun {W'} hle => by rw [lst_quiet hq]; exact law.stable hle hf
        split
        · rename_i hw
          simp only [hw, if_true] at hg
          obtain ⟨v, h1, h2⟩ := hg
          have h3 := h1 ⟨W, hW⟩
          refine .inl ?_
          unfold Oper.wp
          simp only at h3
          generalize (execOp a.eval o).run P W = r at *
          cases r with
          | ok nx W' =>
            cases nx <;> simp only [sameUpon] at h3 <;> simp only [Oper.upon]
            case value u => rw [h3.2]; exact wpAny_of_M law hd hsel hsink hfl hQ hL F _ _ _ _ (inv.set hi) h2 (law.trans hW h3.1) (hF h3.1)
            case skip => rw [h3.2] at h2; exact wpAny_of_M law hd hsel hsink hfl hQ hL F _ _ _ _ (inv.set hi) h2 (law.trans hW h3.1) (hF h3.1)
          | halt x W' => simp only [sameUpon] at h3
        · rename_i hw
          simp only [hw] at hg
          exact wpAny_of_M law hd hsel hsink hfl hQ hL F _ _ _ _ (inv.set hi) hg hW (by rw [lst_quiet hq]; exact hf)
      | some ds =>
        simp only [hq] at hg
        obtain ⟨hw, h1, h2⟩ := hg
        have h3 := h1 ⟨W, hW⟩ (lst hv listed) f (fun k hh => ⟨by
          obtain ⟨⟨ds', hds'⟩, _⟩ := depsB_spec hd ho hq hh
          simp [lst, hds', deps_listed hd hi hq hh], rfl⟩) (by unfold lst; rw [getD_both (mem_ready.1 hi).1]; rfl) hf
        have hF : ∀ {v W'}, I (updS (lst hv listed) i) (upd f i v) W' → I (lst hv (listed.setIfInBounds i true)) (upd f i v) W' := fun {v W'} h => by rw [lst_heavy hq (by rw [inv.size]; exact (Array.getElem?_eq_some_iff.1 ho).1)]; exact h
        simp only [hw, if_true]
        refine .inl ?_
        unfold Oper.wp
        simp only at h3
        generalize (execOp a.eval o).run P W = r at *
        cases r with
        | ok nx W' =>
          cases nx <;> simp only [growUpon] at h3 <;> simp only [Oper.upon]
          case value u => exact wpAny_of_M law hd hsel hsink hfl hQ hL F _ _ _ _ (inv.set hi) (h2 u) (law.trans hW h3.1) (hF h3.2)
          case enter fn args =>
            refine h3.2.mono fun e W'' he => ?_
            obtain ⟨v, rfl, hle, hp⟩ := he
            exact wpAny_of_M law hd hsel hsink hfl hQ hL F _ _ _ _ (inv.set hi) (h2 v) (law.trans hW (law.trans h3.1 hle)) (hF hp)
        | halt x W' => simp only [growUpon] at h3
theorem wpAnyM_weaken {n : Nat → Bool} {L L' : Array Bool → Act → (Nat → Value) → Prop} (h : ∀ listed a f, L listed a f → L' listed a f) : ∀ (F : Nat) (listed : Array Bool) (a : Act) (f : Nat → Value), wpAnyM P md ops Le w0 I hv n L F listed a f → wpAnyM P md ops Le w0 I hv n L' F listed a f
  | 0, _, _, _, hh => h _ _ _ hh
  | F + 1, _, _, _, hh => ⟨hh.1, fun i hi hn => gOpI_mono (fun a' f' h' => wpAnyM_weaken h F _ a' f' h') (hh.2 i hi hn)⟩
theorem wpAnyM_first (hrefl : Le w0 w0) (hd : depsB md ops hv = true) {n : Nat → Bool} {i : Nat} {oi : Oper} {L : Array Bool → Act → (Nat → Value) → Prop} (hi : ops[i]? = some oi) (hsel : ∀ (j : Nat) (o : Oper) cs b, ops[j]? = some o → o.op ≠ .select cs b)
    (hin : n i = true) (hLk : ∀ listed a f, L listed a f → ∀ j ∈ Region.ready md ops listed, n j = false) :
    ∀ (F : Nat) (listed : Array Bool) (a : Act) (f : Nat → Value), GInv md ops listed →
      (∀ j oj, ops[j]? = some oj → j ≠ i → listed.getD j true = false → (∀ e ∈ oj.after, Region.binds md e = true → e.on ≠ i) → oi.apart ops oj = true) →
      i ∈ Region.ready md ops listed → gOpI P ops Le w0 I hv i (wpAnyM P md ops Le w0 I hv n L F (listed.setIfInBounds i true)) a f → wpAnyM P md ops Le w0 I hv n L (F + 1) listed a f := by
  intro F
  have gsome : ∀ {K : Act → (Nat → Value) → Prop} {a : Act} {f : Nat → Value}, gOpI P ops Le w0 I hv i K a f → ∃ a' f', K a' f' := fun {K a f} h => by
    unfold gOpI at h
    simp only [hi] at h
    cases q : hv i with
    | none =>
      simp only [q] at h
      by_cases wi : Region.wanted oi (yielded ops a.tmps) = true
      · simp only [wi, if_true] at h; obtain ⟨v, _, h2⟩ := h; exact ⟨_, _, h2⟩
      · simp only [wi] at h; exact ⟨_, _, h⟩
    | some ds => simp only [q] at h; exact ⟨_, _, h.2.2 undef⟩
  induction F with
  | zero =>
    intro listed a f inv hfree hr H
    refine ⟨⟨i, hr, hin⟩, fun j hj hjn => ?_⟩
    by_cases hji : j = i
    · subst hji; exact H
    · exfalso
      obtain ⟨a', f', hL⟩ := gsome H
      have := hLk _ _ _ hL j (ready_mono hj hji)
      rw [hjn] at this
      cases this
  | succ F ih =>
    intro listed a f inv hfree hr H
    refine ⟨⟨i, hr, hin⟩, fun j hj hjn => ?_⟩
    by_cases hji : j = i
    · subst hji; exact H
    · obtain ⟨hjun, oj, hoj, hall⟩ := mem_ready.1 hj
      have hiun := (mem_ready.1 hr).1
      have hnot : ∀ e ∈ oj.after, Region.binds md e = true → e.on ≠ i := fun e he hb heq => by
        have h1 := hall e he hb
        rw [heq, getD_both hiun] at h1
        cases h1
      have hap := hfree j oj hoj hji hjun hnot
      have H1 : gOpI P ops Le w0 I hv i (fun a' f' => gOpI P ops Le w0 I hv j (wpAnyM P md ops Le w0 I hv n L F ((listed.setIfInBounds i true).setIfInBounds j true)) a' f') a f :=
        gOpI_mono (fun a' f' h => h.2 j (ready_mono hj hji) hjn) H
      have H2 := gOpI_swap hrefl hji hi hoj hap (fun cs b => hsel i oi cs b hi) (fun cs b => hsel j oj cs b hoj)
        (fun ds e hm => by have := deps_listed hd hr e hm; rw [getD_both hjun] at this; cases this)
        (fun ds e hm => by have := deps_listed hd hj e hm; rw [getD_both hiun] at this; cases this) H1
      have hfree' : ∀ k ok, ops[k]? = some ok → k ≠ i → (listed.setIfInBounds j true).getD k true = false →
          (∀ e ∈ ok.after, Region.binds md e = true → e.on ≠ i) → oi.apart ops ok = true := fun k ok hk hki hun hno => by
        refine hfree k ok hk hki ?_ hno
        by_cases hjk : j = k
        · subst hjk; exact hjun
        · rw [getD_set_ne true hjk] at hun; exact hun
      refine gOpI_mono (fun a' f' h => ih (listed.setIfInBounds j true) a' f' (inv.set hj) hfree' (ready_mono hr (Ne.symm hji)) ?_) H2
      rw [Array.setIfInBounds_comm _ _ hji]
      exact h
theorem wpAnyM_lex (hrefl : Le w0 w0) {l : List Oper} (hd : depsB md l.toArray hv = true) {n : Nat → Bool} {tail : List Nat} {R : Act → (Nat → Value) → Prop} (hsel : Region.noSelect l.toArray = true) (hnt : ∀ t ∈ tail, n t = false) :
    ∀ (hd' : List Nat) (listed : Array Bool) (a : Act) (f : Nat → Value), (∀ i ∈ hd', n i = true) → GInv md l.toArray listed → ordHead md l.toArray tail hd' listed = true → wpGI P l.toArray Le w0 I hv R (pickOps l hd') a f →
    wpAnyM P md l.toArray Le w0 I hv n (fun listed' a' f' => seqT md l.toArray tail listed' = true ∧ R a' f' ∧ (∀ i ∈ hd', listed'.getD i false = true) ∧ (∀ i, listed.getD i false = true → listed'.getD i false = true)) hd'.length listed a f
  | [], listed, a, f, _, _, hB, h => ⟨by simpa [ordHead] using hB, h, fun i hi => (by cases hi), fun i h => h⟩
  | k :: hd', listed, a, f, hn, inv, hB, h => by
    simp only [ordHead, Bool.and_eq_true] at hB
    obtain ⟨⟨hr, hf⟩, hB'⟩ := hB
    have hr' : k ∈ Region.ready md l.toArray listed := by simpa using hr
    obtain ⟨_, o, h0, _⟩ := mem_ready.1 hr'
    have h0' : l[k]? = some o := by simpa using h0
    have hp : pickOps l (k :: hd') = (k, o) :: pickOps l hd' := by simp only [pickOps, h0']
    rw [hp] at h
    have hks : k < listed.size := by rw [inv.size]; exact (Array.getElem?_eq_some_iff.1 h0).1
    have hself : (listed.setIfInBounds k true).getD k false = true := by simp [hks]
    have hg : gOpI P l.toArray Le w0 I hv k (wpGI P l.toArray Le w0 I hv R (pickOps l hd')) a f := by
      unfold gOpI
      simp only [h0]
      unfold wpGI at h
      exact h
    refine wpAnyM_first hrefl hd h0 (Region.noSelect_spec hsel) (hn k (by simp)) (fun listed' a' f' hL => seqT_ready hnt hL.1) hd'.length listed a f inv (Region.free_spec h0 hf) hr' (gOpI_mono (fun a' f' h' => ?_) hg)
    have IH := wpAnyM_lex hrefl hd hsel hnt hd' _ a' f' (fun i hi => hn i (List.mem_cons_of_mem _ hi)) (inv.set hr') hB' h'
    refine wpAnyM_weaken (fun listed' a' f' hh => ⟨hh.1, hh.2.1, fun i hi => ?_, fun i hi => hh.2.2.2 i (getD_set_true hi)⟩) _ _ _ _ IH
    rcases List.mem_cons.1 hi with e | hi
    · subst e; exact hh.2.2.2 i hself
    · exact hh.2.2.1 i hi
/-- one walk serves every order: hd: the operations that let memory grow, in one order; fls: those of them (moves, extracts) that may come late; tail: those behind all others -/
theorem wp_region_growI {id : Nat} {Q : Exit → Act → World → Prop} {a : Act} {w : World} {l : List Oper} (hd fls tail : List Nat) (Le : World → World → Prop) (I : (Nat → Bool) → (Nat → Value) → World → Prop) (hv : Nat → Option (List Nat)) (hm : P.follows .mixedOrders = true) (hB : growL .any l.toArray hd fls tail = true)
    (hdep : depsB .any l.toArray hv = true) (law : LawfulI Le I) (hrefl : Le w.drew w.drew) (hI : I (fun _ => false) (fun _ => undef) w.drew) (hQ : ∀ d v c a w, Q (.panic c) (Act.put a d v) w → Q (.panic c) a w)
    (h : wpGI P l.toArray Le w.drew I hv (fun a' f => ∀ (p : LaterG Le w.drew) (s : Nat → Bool), (∀ k ∈ hd, (hv k).isSome = true → s k = true) → I s f p.W → wpList P l.toArray Q ((pickOps l tail).map (·.2)) a' p.W) (pickOps l hd) a (fun _ => undef)) : (Code.region id l.toArray true).wp P Q a w := by
  simp only [growL, Bool.and_eq_true, decide_eq_true_eq] at hB
  obtain ⟨⟨⟨⟨⟨hsel, hlen⟩, hs⟩, hfl⟩, hnt⟩, hord⟩ := hB
  have hnt' : ∀ t ∈ tail, (fun i => hd.contains i) t = false := fun t ht => by
    have := List.all_eq_true.1 hnt t ht
    simpa using this
  have inv0 : GInv .any l.toArray (Array.replicate l.toArray.size false) := ⟨by simp, fun j oj _ hl => (by rw [getD_replicate_false] at hl; cases hl)⟩
  have H := wpAnyM_lex (md := .any) (l := l) (n := fun i => hd.contains i) hrefl hdep hsel hnt' hd _ a _ (fun i hi => by simpa using hi) inv0 hord h
  refine wp_region_any hm ?_
  have := wpAny_of_M (Q := Q) (g := tail.length) law hdep (Region.noSelect_spec hsel) hs hfl hQ (fun listed a' f W hL hW hF => wpAny_of_seqT (md := .any) (Q := Q) tail listed a' W hL.1 (hL.2.1 ⟨W, hW⟩ (lst hv listed) (fun k hk e => by unfold lst; rw [hL.2.2.1 k hk, e]; rfl) hF)) _ _ _ _ w.drew inv0 H hrefl (by rw [show lst hv (Array.replicate l.toArray.size false) = fun _ => false from funext fun k => by unfold lst; rw [getD_replicate_false]; rfl]; exact hI)
  rw [hlen] at this
  exact this
section
variable {R : Act → (Nat → Value) → Prop} {o : Oper} {rest : List (Nat × Oper)} {k : Nat} {a : Act} {f : Nat → Value}
theorem wpGI_nil (h : R a f) : wpGI P ops Le w0 I hv R [] a f := h
theorem wpGI_step (hk : hv k = none) (h : ∀ K : Act → Prop, (∀ a', wpGI P ops Le w0 I hv R rest a' f → K a') → if Region.wanted o (yielded ops a.tmps) = true then gquiet P Le w0 o a K else K (a.put o.dst undef)) : wpGI P ops Le w0 I hv R ((k, o) :: rest) a f := by
  unfold wpGI
  simp only [hk]
  exact h _ (fun _ h => h)
theorem wpGI_heavy {ds : List Nat} (hk : hv k = some ds) (hw : Region.wanted o (yielded ops a.tmps) = true) (h : gheavyI P Le w0 I ds k o a f)
    (hn : ∀ v, wpGI P ops Le w0 I hv R rest (a.put o.dst v) (upd f k v)) : wpGI P ops Le w0 I hv R ((k, o) :: rest) a f := by
  unfold wpGI
  simp only [hk]
  exact ⟨hw, h, hn⟩
end
end
end Go.Proofs.Ytmlhpchabnajkaa
