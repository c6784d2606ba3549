/- a region that draws its order, whose operations let memory grow: one walk of the text's order serves every order -/
import Derived.Test.YtmlhpchabnajkaaCel
import Derived.StillTail
import Derived.StillTailTactics
namespace Go.Proofs.Ytmlhpchabnajkaa
set_option linter.unusedSimpArgs false
set_option linter.unusedVariables false
open Go.RowKit

structure LaterG (Le : World → World → Prop) (w : World) where
  W : World
  by_ : Le w W

/-- what an operation has left: a value with its property, a world that comes later -/
def growUpon (P : Program) (Le : World → World → Prop) (Φ : Value → World → Prop) (W : World) : Result Next → Prop
  | .ok (.value v) W' => Le W W' ∧ Φ v W'
  | .ok (.enter f args) W' => Le W W' ∧ Calls P f args W' (fun e W'' => ∃ v, e = .returned v ∧ Le W' W'' ∧ Φ v W'')
  | _ => False
/-- one value, whatever the world -/
def sameUpon (Le : World → World → Prop) (v : Value) (W : World) : Result Next → Prop
  | .ok (.value u) W' => Le W W' ∧ u = v
  | .ok .skip W' => Le W W' ∧ v = undef
  | _ => False
def upd (f : Nat → Value) (k : Nat) (v : Value) : Nat → Value := fun j => if j = k then v else f j
theorem upd_same (f : Nat → Value) (k : Nat) (v : Value) : upd f k v k = v := if_pos rfl
theorem upd_other (f : Nat → Value) {k j : Nat} (v : Value) (h : j ≠ k) : upd f k v j = f j := if_neg h
theorem upd_comm (f : Nat → Value) {i j : Nat} (v u : Value) (h : i ≠ j) : upd (upd f i v) j u = upd (upd f j u) i v := by
  funext k
  unfold upd
  split <;> split <;> first | rfl | omega

section
variable {P : Program} {ops : Array Oper} {md : Region.Mode} {Le : World → World → Prop} {w0 : World} {Ψ : Nat → Value → World → Prop} {hv : Nat → Option (List Nat)}

def factsOf (Ψ : Nat → Value → World → Prop) (ds : List Nat) (f : Nat → Value) (W : World) : Prop := ∀ h ∈ ds, Ψ h (f h) W
def gquietAt (P : Program) (Le : World → World → Prop) (w0 : World) (o : Oper) (a : Act) (v : Value) : Prop := ∀ p : LaterG Le w0, sameUpon Le v p.W ((execOp a.eval o).run P p.W)
def gquiet (P : Program) (Le : World → World → Prop) (w0 : World) (o : Oper) (a : Act) (next : Act → Prop) : Prop := ∃ v, gquietAt P Le w0 o a v ∧ next (a.put o.dst v)
def gheavy (P : Program) (Le : World → World → Prop) (w0 : World) (o : Oper) (a : Act) (pre : World → Prop) (Φ : Value → World → Prop) : Prop := ∀ p : LaterG Le w0, pre p.W → growUpon P Le Φ p.W ((execOp a.eval o).run P p.W)

def gOp (P : Program) (ops : Array Oper) (Le : World → World → Prop) (w0 : World) (Ψ : Nat → Value → World → Prop) (hv : Nat → Option (List Nat)) (i : Nat) (K : Act → (Nat → Value) → Prop) (a : Act) (f : Nat → Value) : Prop :=
  match ops[i]? with
  | none => K a f
  | some o => match hv i with
    | none => if Region.wanted o (yielded ops a.tmps) = true then gquiet P Le w0 o a (fun a' => K a' f) else K (a.put o.dst undef) f
    | some ds => Region.wanted o (yielded ops a.tmps) = true ∧ gheavy P Le w0 o a (factsOf Ψ ds f) (Ψ i) ∧ ∀ v, K (a.put o.dst v) (upd f i v)

/-- the walk in one order -/
def wpG (P : Program) (ops : Array Oper) (Le : World → World → Prop) (w0 : World) (Ψ : Nat → Value → World → Prop) (hv : Nat → Option (List Nat)) (R : Act → (Nat → Value) → Prop) : List (Nat × Oper) → Act → (Nat → Value) → Prop
  | [], a, f => R a f
  | (k, o) :: rest, a, f => match hv k with
    | none => if Region.wanted o (yielded ops a.tmps) = true then gquiet P Le w0 o a (fun a' => wpG P ops Le w0 Ψ hv R rest a' f) else wpG P ops Le w0 Ψ hv R rest (a.put o.dst undef) f
    | some ds => Region.wanted o (yielded ops a.tmps) = true ∧ gheavy P Le w0 o a (factsOf Ψ ds f) (Ψ k) ∧ ∀ v, wpG P ops Le w0 Ψ hv R rest (a.put o.dst v) (upd f k v)

def wpAnyG (P : Program) (md : Region.Mode) (ops : Array Oper) (Le : World → World → Prop) (w0 : World) (Ψ : Nat → Value → World → Prop) (hv : Nat → Option (List Nat)) (n : Nat → Bool) (L : Array Bool → Act → (Nat → Value) → Prop) : Nat → Array Bool → Act → (Nat → Value) → Prop
  | 0, listed, a, f => L listed a f
  | F + 1, listed, a, f => Region.ready md ops listed ≠ [] ∧ ∀ i ∈ Region.ready md ops listed, n i = true ∧ gOp P ops Le w0 Ψ hv i (wpAnyG P md ops Le w0 Ψ hv n L F (listed.setIfInBounds i true)) a f

theorem gOp_mono {i : Nat} {K K' : Act → (Nat → Value) → Prop} {a : Act} {f : Nat → Value} (h : ∀ a f, K a f → K' a f) (hh : gOp P ops Le w0 Ψ hv i K a f) : gOp P ops Le w0 Ψ hv i K' a f := by
  unfold gOp at *
  split
  · rename_i ho; simp only [ho] at hh; exact h _ _ hh
  · rename_i o ho
    simp only [ho] at hh
    split
    · rename_i hq
      simp only [hq] at hh
      split
      · rename_i hw; simp only [hw, if_true] at hh; obtain ⟨v, h1, h2⟩ := hh; exact ⟨v, h1, h _ _ h2⟩
      · rename_i hw; simp only [hw] at hh; exact h _ _ hh
    · rename_i ds hq
      simp only [hq] at hh
      exact ⟨hh.1, hh.2.1, fun v => h _ _ (hh.2.2 v)⟩

/-- what is known of those that have come up -/
def Facts (Ψ : Nat → Value → World → Prop) (hv : Nat → Option (List Nat)) (listed : Array Bool) (f : Nat → Value) (W : World) : Prop := ∀ h ds, hv h = some ds → listed.getD h false = true → Ψ h (f h) W

structure Lawful (Le : World → World → Prop) (Ψ : Nat → Value → World → Prop) : Prop where
  trans : ∀ {a b c}, Le a b → Le b c → Le a c
  stable : ∀ {k v W W'}, Le W W' → Ψ k v W → Ψ k v W'
def depsB (md : Region.Mode) (ops : Array Oper) (hv : Nat → Option (List Nat)) : Bool := (List.range ops.size).all fun i => match hv i with | none => true | some ds => ds.all fun h => (hv h).isSome && Region.waitsFor md ops i h
theorem depsB_spec (hd : depsB md ops hv = true) {i : Nat} {o : Oper} (ho : ops[i]? = some o) {ds : List Nat} (hi : hv i = some ds) {h : Nat} (hh : h ∈ ds) : (∃ ds', hv h = some ds') ∧ ∃ e ∈ o.after, Region.binds md e = true ∧ e.on = h := by
  have hlt : i < ops.size := (Array.getElem?_eq_some_iff.1 ho).1
  have h1 := List.all_eq_true.1 hd i (List.mem_range.2 hlt)
  simp only [hi] at h1
  have h2 := List.all_eq_true.1 h1 h hh
  simp only [Bool.and_eq_true] at h2
  obtain ⟨o', ho', e, he, hb, hon⟩ := Region.waitsFor_spec h2.2
  have : o' = o := Option.some.inj (ho'.symm.trans ho)
  subst this
  exact ⟨Option.isSome_iff_exists.1 h2.1, e, he, hb, hon⟩
theorem deps_listed (hd : depsB md ops hv = true) {i : Nat} {listed : Array Bool} (hr : i ∈ Region.ready md ops listed) {ds : List Nat} (hi : hv i = some ds) {h : Nat} (hh : h ∈ ds) : listed.getD h false = true := by
  obtain ⟨_, o, ho, hall⟩ := mem_ready.1 hr
  obtain ⟨_, e, he, hb, hon⟩ := depsB_spec hd ho hi hh
  rw [← hon]
  exact hall e he hb

theorem wpAny_of_G (law : Lawful Le Ψ) (hd : depsB md ops hv = true) {n : Nat → Bool} {g : Nat} {L : Array Bool → Act → (Nat → Value) → Prop} {Q : Exit → Act → World → Prop}
    (hL : ∀ listed a f W, L listed a f → Le w0 W → Facts Ψ hv listed f W → wpAny P md ops Q g listed a W) :
    ∀ (F : Nat) (listed : Array Bool) (a : Act) (f : Nat → Value) (W : World), wpAnyG P md ops Le w0 Ψ hv n L F listed a f → Le w0 W → Facts Ψ hv listed f W → wpAny P md ops Q (F + g) listed a W
  | 0, listed, a, f, W, h, hW, hf => by rw [Nat.zero_add]; exact hL _ _ _ _ h hW hf
  | F + 1, listed, a, f, W, h, hW, hf => by
    rw [show F + 1 + g = (F + g) + 1 by omega]
    refine ⟨fun h0 => absurd h0 h.1, fun i hi => ?_⟩
    have hg := (h.2 i hi).2
    have hun := (mem_ready.1 hi).1
    have hset : ∀ {j : Nat}, (listed.setIfInBounds i true).getD j false = true → j ≠ i → listed.getD j false = true := fun {j} hj hne => by rwa [getD_set_ne false (Ne.symm hne)] at hj
    unfold gOp at hg
    unfold wpOp
    split
    · rename_i ho
      simp only [ho] at hg
      obtain ⟨_, o, ho', _⟩ := mem_ready.1 hi
      rw [ho] at ho'
      cases ho'
    · rename_i o ho
      simp only [ho] at hg
      cases hq : hv i with
      | none =>
        simp only [hq] at hg
        have hF : ∀ {W'}, Le W W' → Facts Ψ hv (listed.setIfInBounds i true) f W' := fun {W'} hle h ds hh hl => law.stable hle (hf h ds hh (hset hl (fun e => by subst e; rw [hq] at hh; cases hh)))
        split
        · rename_i hw
          simp only [hw, if_true] at hg
          obtain ⟨v, h1, h2⟩ := hg
          have h3 := h1 ⟨W, hW⟩
          refine .inl ?_
          unfold Oper.wp
          simp only at h3
          generalize (execOp a.eval o).run P W = r at *
          cases r with
          | ok nx W' =>
            cases nx <;> simp only [sameUpon] at h3 <;> simp only [Oper.upon]
            case value u => rw [h3.2]; exact wpAny_of_G law hd hL F _ _ _ _ h2 (law.trans hW h3.1) (hF h3.1)
            case skip => rw [h3.2] at h2; exact wpAny_of_G law hd hL F _ _ _ _ h2 (law.trans hW h3.1) (hF h3.1)
          | halt x W' => simp only [sameUpon] at h3
        · rename_i hw
          simp only [hw] at hg
          exact wpAny_of_G law hd hL F _ _ _ _ hg hW (fun h ds hh hl => hf h ds hh (hset hl (fun e => by subst e; rw [hq] at hh; cases hh)))
      | some ds =>
        simp only [hq] at hg
        obtain ⟨hw, h1, h2⟩ := hg
        have hpre : factsOf Ψ ds f W := fun h hh => by
          obtain ⟨⟨ds', hds'⟩, _⟩ := depsB_spec hd ho hq hh
          exact hf h ds' hds' (deps_listed hd hi hq hh)
        have h3 := h1 ⟨W, hW⟩ hpre
        have hF : ∀ {v W'}, Le W W' → Ψ i v W' → Facts Ψ hv (listed.setIfInBounds i true) (upd f i v) W' := fun {v W'} hle hv' h ds' hh hl => by
          by_cases e : h = i
          · subst e; rw [upd_same]; exact hv'
          · rw [upd_other _ _ e]; exact law.stable hle (hf h ds' hh (hset hl e))
        simp only [hw, if_true]
        refine .inl ?_
        unfold Oper.wp
        simp only at h3
        generalize (execOp a.eval o).run P W = r at *
        cases r with
        | ok nx W' =>
          cases nx <;> simp only [growUpon] at h3 <;> simp only [Oper.upon]
          case value u => exact wpAny_of_G law hd hL F _ _ _ _ (h2 u) (law.trans hW h3.1) (hF h3.1 h3.2)
          case enter fn args =>
            refine h3.2.mono fun e W'' he => ?_
            obtain ⟨v, rfl, hle, hp⟩ := he
            exact wpAny_of_G law hd hL F _ _ _ _ (h2 v) (law.trans hW (law.trans h3.1 hle)) (hF (law.trans h3.1 hle) hp)
        | halt x W' => simp only [growUpon] at h3

theorem gquietAt_put {o : Oper} (hs : ∀ cs b, o.op ≠ .select cs b) {a : Act} {dst : Option Tmp} {v u : Value} (h : ∀ d, dst = some d → d ∉ o.looksAt ops) : gquietAt P Le w0 o (a.put dst v) u ↔ gquietAt P Le w0 o a u := by
  unfold gquietAt
  rw [execOp_put (ops := ops) o hs a dst v h]
theorem gheavy_put {o : Oper} (hs : ∀ cs b, o.op ≠ .select cs b) {a : Act} {dst : Option Tmp} {v : Value} {pre : World → Prop} {Φ : Value → World → Prop} (h : ∀ d, dst = some d → d ∉ o.looksAt ops) : gheavy P Le w0 o (a.put dst v) pre Φ ↔ gheavy P Le w0 o a pre Φ := by
  unfold gheavy
  rw [execOp_put (ops := ops) o hs a dst v h]
theorem gquietAt_one {o : Oper} {a : Act} {u v : Value} (hrefl : Le w0 w0) (h1 : gquietAt P Le w0 o a u) (h2 : gquietAt P Le w0 o a v) : u = v := by
  have a1 := h1 ⟨w0, hrefl⟩
  have a2 := h2 ⟨w0, hrefl⟩
  simp only at a1 a2
  generalize (execOp a.eval o).run P w0 = r at *
  cases r with
  | ok nx W' =>
    cases nx <;> simp only [sameUpon] at a1 a2
    · rw [← a1.2, ← a2.2]
    · rw [a1.2, a2.2]
  | halt x W' => simp only [sameUpon] at a1

/-- one operation j that is apart from i, ahead of i -/
theorem gOp_swap (hrefl : Le w0 w0) {i j : Nat} {oi oj : Oper} (hij : j ≠ i) (hi : ops[i]? = some oi) (hj : ops[j]? = some oj) (hap : oi.apart ops oj = true) (hsi : ∀ cs b, oi.op ≠ .select cs b) (hsj : ∀ cs b, oj.op ≠ .select cs b)
    (hdi : ∀ ds, hv i = some ds → j ∉ ds) (hdj : ∀ ds, hv j = some ds → i ∉ ds) {K : Act → (Nat → Value) → Prop} {a : Act} {f : Nat → Value}
    (h : gOp P ops Le w0 Ψ hv i (fun a' f' => gOp P ops Le w0 Ψ hv j K a' f') a f) : gOp P ops Le w0 Ψ hv j (fun a' f' => gOp P ops Le w0 Ψ hv i K a' f') a f := by
  obtain ⟨h1, h2, h3⟩ := Oper.apart_spec hap
  have hwi : ∀ (a : Act) u, Region.wanted oi (yielded ops (a.put oj.dst u).tmps) = Region.wanted oi (yielded ops a.tmps) := fun a u => wanted_put oi a oj.dst u h3
  have hwj : ∀ (a : Act) u, Region.wanted oj (yielded ops (a.put oi.dst u).tmps) = Region.wanted oj (yielded ops a.tmps) := fun a u => wanted_put oj a oi.dst u h1
  have hcom : ∀ (a : Act) v u, (a.put oi.dst v).put oj.dst u = (a.put oj.dst u).put oi.dst v := fun a v u => Act.put_comm a v u h2
  have hfj : ∀ ds v, hv j = some ds → factsOf Ψ ds (upd f i v) = factsOf Ψ ds f := fun ds v e => by
    funext W
    unfold factsOf
    apply propext
    constructor
    · intro hh k hk; have := hh k hk; rwa [upd_other _ _ (fun e' : k = i => hdj ds e (by rw [← e']; exact hk))] at this
    · intro hh k hk; rw [upd_other _ _ (fun e' : k = i => hdj ds e (by rw [← e']; exact hk))]; exact hh k hk
  have hfi : ∀ ds v, hv i = some ds → factsOf Ψ ds (upd f j v) = factsOf Ψ ds f := fun ds v e => by
    funext W
    unfold factsOf
    apply propext
    constructor
    · intro hh k hk; have := hh k hk; rwa [upd_other _ _ (fun e' : k = j => hdi ds e (by rw [← e']; exact hk))] at this
    · intro hh k hk; rw [upd_other _ _ (fun e' : k = j => hdi ds e (by rw [← e']; exact hk))]; exact hh k hk
  unfold gOp at h ⊢
  simp only [hi, hj] at h ⊢
  cases qi : hv i with
  | none =>
    simp only [qi] at h ⊢
    by_cases wi : Region.wanted oi (yielded ops a.tmps) = true
    · simp only [wi, if_true] at h
      obtain ⟨v, hy, hK⟩ := h
      cases qj : hv j with
      | none =>
        simp only [qj] at hK ⊢
        rw [hwj] at hK
        by_cases wj : Region.wanted oj (yielded ops a.tmps) = true
        · simp only [wj, if_true] at hK ⊢
          obtain ⟨u, hu, hn⟩ := hK
          refine ⟨u, (gquietAt_put hsj h1).1 hu, ?_⟩
          dsimp only
          rw [hwi]
          simp only [wi, if_true]
          exact ⟨v, (gquietAt_put hsi h3).2 hy, by rw [← hcom]; exact hn⟩
        · simp only [wj] at hK ⊢
          rw [hwi]
          simp only [wi, if_true]
          exact ⟨v, (gquietAt_put hsi h3).2 hy, by rw [← hcom]; exact hK⟩
      | some ds =>
        simp only [qj] at hK ⊢
        rw [hwj] at hK
        refine ⟨hK.1, (gheavy_put hsj h1).1 hK.2.1, fun u => ?_⟩
        rw [hwi]
        simp only [wi, if_true]
        exact ⟨v, (gquietAt_put hsi h3).2 hy, by rw [← hcom]; exact hK.2.2 u⟩
    · simp only [wi] at h
      cases qj : hv j with
      | none =>
        simp only [qj] at h ⊢
        rw [hwj] at h
        by_cases wj : Region.wanted oj (yielded ops a.tmps) = true
        · simp only [wj, if_true] at h ⊢
          obtain ⟨u, hu, hn⟩ := h
          refine ⟨u, (gquietAt_put hsj h1).1 hu, ?_⟩
          dsimp only
          rw [hwi]
          simp only [wi]
          rw [← hcom]; exact hn
        · simp only [wj] at h ⊢
          rw [hwi]
          simp only [wi]
          rw [← hcom]; exact h
      | some ds =>
        simp only [qj] at h ⊢
        rw [hwj] at h
        refine ⟨h.1, (gheavy_put hsj h1).1 h.2.1, fun u => ?_⟩
        rw [hwi]
        simp only [wi]
        rw [← hcom]; exact h.2.2 u
  | some di =>
    simp only [qi] at h ⊢
    obtain ⟨wi, hy, hK⟩ := h
    cases qj : hv j with
    | none =>
      simp only [qj] at hK ⊢
      by_cases wj : Region.wanted oj (yielded ops a.tmps) = true
      · simp only [wj, if_true]
        have hK' : ∀ v, ∃ u, gquietAt P Le w0 oj a u ∧ K ((a.put oi.dst v).put oj.dst u) (upd f i v) := fun v => by
          have := hK v
          rw [hwj] at this
          simp only [wj, if_true] at this
          obtain ⟨u, hu, hn⟩ := this
          exact ⟨u, (gquietAt_put hsj h1).1 hu, hn⟩
        obtain ⟨u, hu, _⟩ := hK' undef
        refine ⟨u, hu, by rw [hwi]; exact wi, (gheavy_put hsi h3).2 hy, fun v => ?_⟩
        obtain ⟨u', hu', hn⟩ := hK' v
        rw [gquietAt_one hrefl hu hu', ← hcom]
        exact hn
      · simp only [wj]
        refine ⟨by rw [hwi]; exact wi, (gheavy_put hsi h3).2 hy, fun v => ?_⟩
        have := hK v
        rw [hwj] at this
        simp only [wj] at this
        rw [← hcom]; exact this
    | some dj =>
      simp only [qj] at hK ⊢
      have k0 := hK undef
      rw [hwj, hfj dj undef qj] at k0
      refine ⟨k0.1, (gheavy_put hsj h1).1 k0.2.1, fun u => ⟨by rw [hwi]; exact wi, ?_, fun v => ?_⟩⟩
      · rw [hfi di u qi]; exact (gheavy_put hsi h3).2 hy
      · have := (hK v).2.2 u
        rw [upd_comm f v u (Ne.symm hij), hcom] at this
        exact this

theorem wpAnyG_weaken {n : Nat → Bool} {L L' : Array Bool → Act → (Nat → Value) → Prop} (h : ∀ listed a f, L listed a f → L' listed a f) : ∀ (F : Nat) (listed : Array Bool) (a : Act) (f : Nat → Value), wpAnyG P md ops Le w0 Ψ hv n L F listed a f → wpAnyG P md ops Le w0 Ψ hv n L' F listed a f
  | 0, _, _, _, hh => h _ _ _ hh
  | F + 1, _, _, _, hh => ⟨hh.1, fun i hi => ⟨(hh.2 i hi).1, gOp_mono (fun a' f' h' => wpAnyG_weaken h F _ a' f' h') (hh.2 i hi).2⟩⟩
theorem getD_false_of {listed : Array Bool} {i : Nat} (h : listed.getD i true = false) : listed.getD i false = false := getD_both h
structure GInv (md : Region.Mode) (ops : Array Oper) (listed : Array Bool) : Prop where
  size : listed.size = ops.size
  closed : ∀ j oj, ops[j]? = some oj → listed.getD j false = true → ∀ e ∈ oj.after, Region.binds md e = true → listed.getD e.on false = true
theorem GInv.set {i : Nat} {listed : Array Bool} (inv : GInv md ops listed) (hi : i ∈ Region.ready md ops listed) : GInv md ops (listed.setIfInBounds i true) := by
  obtain ⟨_, oi, hoi, hall⟩ := mem_ready.1 hi
  refine ⟨by simp [inv.size], fun j oj hj hl e he hb => ?_⟩
  by_cases hij : i = j
  · subst hij
    have : oj = oi := Option.some.inj (hj.symm.trans hoi)
    subst this
    exact getD_set_true (hall e he hb)
  · rw [getD_set_ne false hij] at hl
    exact getD_set_true (inv.closed j oj hj hl e he hb)
/-- t waits for i, by way of others -/
def reachB (md : Region.Mode) (ops : Array Oper) : Nat → Nat → Nat → Bool
  | 0, _, _ => false
  | F + 1, t, i => Region.waitsFor md ops t i || (List.range ops.size).any fun j => Region.waitsFor md ops t j && reachB md ops F j i
theorem reach_listed {listed : Array Bool} (inv : GInv md ops listed) : ∀ (F t i : Nat), reachB md ops F t i = true → (∀ o, ops[t]? = some o → ∀ e ∈ o.after, Region.binds md e = true → listed.getD e.on false = true) → listed.getD i false = true
  | 0, _, _, h, _ => by cases h
  | F + 1, t, i, h, hall => by
    simp only [reachB, Bool.or_eq_true] at h
    rcases h with h | h
    · obtain ⟨o, ho, e, he, hb, hon⟩ := Region.waitsFor_spec h
      rw [← hon]; exact hall o ho e he hb
    · obtain ⟨j, _, hj⟩ := List.any_eq_true.1 h
      simp only [Bool.and_eq_true] at hj
      obtain ⟨o, ho, e, he, hb, hon⟩ := Region.waitsFor_spec hj.1
      have hl : listed.getD j false = true := by rw [← hon]; exact hall o ho e he hb
      exact reach_listed inv F j i hj.2 fun o' ho' e' he' hb' => inv.closed j o' ho' hl e' he' hb'
def sinkT (md : Region.Mode) (ops : Array Oper) (n : Nat → Bool) : Bool := (List.range ops.size).all fun t => n t || (List.range ops.size).all fun i => !n i || reachB md ops ops.size t i
theorem sink_spec {n : Nat → Bool} (hs : sinkT md ops n = true) {listed : Array Bool} (inv : GInv md ops listed) {i j : Nat} (hi : i < ops.size) (hin : n i = true) (hun : listed.getD i true = false) (hj : j ∈ Region.ready md ops listed) : n j = true := by
  obtain ⟨_, oj, hoj, hall⟩ := mem_ready.1 hj
  have hjs : j < ops.size := (Array.getElem?_eq_some_iff.1 hoj).1
  have h1 := List.all_eq_true.1 hs j (List.mem_range.2 hjs)
  simp only [Bool.or_eq_true] at h1
  rcases h1 with h1 | h1
  · exact h1
  · have h2 := List.all_eq_true.1 h1 i (List.mem_range.2 hi)
    simp only [hin, Bool.not_true, Bool.false_or] at h2
    have h3 := reach_listed inv _ _ _ h2 (fun o ho e he hb => by
      have : o = oj := Option.some.inj (ho.symm.trans hoj)
      subst this
      exact hall e he hb)
    rw [getD_both hun] at h3
    cases h3
theorem wpAnyG_first (hrefl : Le w0 w0) (hd : depsB md ops hv = true) {n : Nat → Bool} {i : Nat} {oi : Oper} {L : Array Bool → Act → (Nat → Value) → Prop} (hi : ops[i]? = some oi) (hsel : ∀ (j : Nat) (o : Oper) cs b, ops[j]? = some o → o.op ≠ .select cs b)
    (hs : sinkT md ops n = true) (hin : n i = true) (hLk : ∀ listed a f, L listed a f → ∀ j ∈ Region.ready md ops listed, n j = false) :
    ∀ (F : Nat) (listed : Array Bool) (a : Act) (f : Nat → Value), GInv md ops listed →
      (∀ j oj, ops[j]? = some oj → j ≠ i → listed.getD j true = false → (∀ e ∈ oj.after, Region.binds md e = true → e.on ≠ i) → oi.apart ops oj = true) →
      i ∈ Region.ready md ops listed → gOp P ops Le w0 Ψ hv i (wpAnyG P md ops Le w0 Ψ hv n L F (listed.setIfInBounds i true)) a f → wpAnyG P md ops Le w0 Ψ hv n L (F + 1) listed a f := by
  intro F
  have his : i < ops.size := (Array.getElem?_eq_some_iff.1 hi).1
  have headOnly : ∀ {listed : Array Bool} {j : Nat}, GInv md ops listed → listed.getD i true = false → j ∈ Region.ready md ops listed → n j = true := fun {listed j} inv hun hj => sink_spec hs inv his hin hun hj
  have gsome : ∀ {K : Act → (Nat → Value) → Prop} {a : Act} {f : Nat → Value}, gOp P ops Le w0 Ψ hv i K a f → ∃ a' f', K a' f' := fun {K a f} h => by
    unfold gOp at h
    simp only [hi] at h
    cases q : hv i with
    | none =>
      simp only [q] at h
      by_cases wi : Region.wanted oi (yielded ops a.tmps) = true
      · simp only [wi, if_true] at h; obtain ⟨v, _, h2⟩ := h; exact ⟨_, _, h2⟩
      · simp only [wi] at h; exact ⟨_, _, h⟩
    | some ds => simp only [q] at h; exact ⟨_, _, h.2.2 undef⟩
  induction F with
  | zero =>
    intro listed a f inv hfree hr H
    refine ⟨fun h => (by rw [h] at hr; cases hr), fun j hj => ?_⟩
    have hjn := headOnly inv (mem_ready.1 hr).1 hj
    refine ⟨hjn, ?_⟩
    by_cases hji : j = i
    · subst hji; exact H
    · exfalso
      obtain ⟨a', f', hL⟩ := gsome H
      have := hLk _ _ _ hL j (ready_mono hj hji)
      rw [hjn] at this
      cases this
  | succ F ih =>
    intro listed a f inv hfree hr H
    refine ⟨fun h => (by rw [h] at hr; cases hr), fun j hj => ?_⟩
    have hjn := headOnly inv (mem_ready.1 hr).1 hj
    refine ⟨hjn, ?_⟩
    by_cases hji : j = i
    · subst hji; exact H
    · obtain ⟨hjun, oj, hoj, hall⟩ := mem_ready.1 hj
      have hiun := (mem_ready.1 hr).1
      have hnot : ∀ e ∈ oj.after, Region.binds md e = true → e.on ≠ i := fun e he hb heq => by
        have h1 := hall e he hb
        rw [heq, getD_both hiun] at h1
        cases h1
      have hap := hfree j oj hoj hji hjun hnot
      have H1 : gOp P ops Le w0 Ψ hv i (fun a' f' => gOp P ops Le w0 Ψ hv j (wpAnyG P md ops Le w0 Ψ hv n L F ((listed.setIfInBounds i true).setIfInBounds j true)) a' f') a f :=
        gOp_mono (fun a' f' h => (h.2 j (ready_mono hj hji)).2) H
      have H2 := gOp_swap hrefl hji hi hoj hap (fun cs b => hsel i oi cs b hi) (fun cs b => hsel j oj cs b hoj)
        (fun ds e hm => by have := deps_listed hd hr e hm; rw [getD_both hjun] at this; cases this)
        (fun ds e hm => by have := deps_listed hd hj e hm; rw [getD_both hiun] at this; cases this) H1
      have hfree' : ∀ k ok, ops[k]? = some ok → k ≠ i → (listed.setIfInBounds j true).getD k true = false →
          (∀ e ∈ ok.after, Region.binds md e = true → e.on ≠ i) → oi.apart ops ok = true := fun k ok hk hki hun hno => by
        refine hfree k ok hk hki ?_ hno
        by_cases hjk : j = k
        · subst hjk; exact hjun
        · rw [getD_set_ne true hjk] at hun; exact hun
      refine gOp_mono (fun a' f' h => ih (listed.setIfInBounds j true) a' f' (inv.set hj) hfree' (ready_mono hr (Ne.symm hji)) ?_) H2
      rw [Array.setIfInBounds_comm _ _ hji]
      exact h

/-- the tail: one behind the other -/
def seqT (md : Region.Mode) (ops : Array Oper) : List Nat → Array Bool → Bool
  | [], listed => (Region.ready md ops listed).isEmpty
  | t :: ts, listed => decide (Region.ready md ops listed = [t]) && seqT md ops ts (listed.setIfInBounds t true)
def ordHead (md : Region.Mode) (ops : Array Oper) (tail : List Nat) : List Nat → Array Bool → Bool
  | [], listed => seqT md ops tail listed
  | i :: hd, listed => (Region.ready md ops listed).contains i && Region.free md ops listed i && ordHead md ops tail hd (listed.setIfInBounds i true)
def pickOps (l : List Oper) : List Nat → List (Nat × Oper)
  | [] => []
  | i :: is => match l[i]? with
    | some o => (i, o) :: pickOps l is
    | none => pickOps l is
theorem seqT_ready {tail : List Nat} {n : Nat → Bool} (hn : ∀ t ∈ tail, n t = false) {listed : Array Bool} (h : seqT md ops tail listed = true) : ∀ j ∈ Region.ready md ops listed, n j = false := by
  cases tail with
  | nil => intro j hj; simp only [seqT, List.isEmpty_iff] at h; rw [h] at hj; cases hj
  | cons t ts =>
    intro j hj
    simp only [seqT, Bool.and_eq_true, decide_eq_true_eq] at h
    rw [h.1] at hj
    have : j = t := by simpa using hj
    rw [this]
    exact hn t (by simp)
theorem wpAny_of_seqT {l : List Oper} {Q : Exit → Act → World → Prop} : ∀ (ts : List Nat) (listed : Array Bool) (a : Act) (w : World), seqT md l.toArray ts listed = true → wpList P l.toArray Q ((pickOps l ts).map (·.2)) a w → wpAny P md l.toArray Q ts.length listed a w
  | [], _, _, _, hB, h => ⟨by simpa [seqT] using hB, h⟩
  | t :: ts, listed, a, w, hB, h => by
    simp only [seqT, Bool.and_eq_true, decide_eq_true_eq] at hB
    refine ⟨fun h1 => (by rw [hB.1] at h1; cases h1), fun i hi => ?_⟩
    have hi0 := hi
    rw [hB.1] at hi
    have hik : i = t := by simpa using hi
    subst hik
    obtain ⟨_, o, ho, _⟩ := mem_ready.1 hi0
    have ho' : l[i]? = some o := by simpa using ho
    have hp : pickOps l (i :: ts) = (i, o) :: pickOps l ts := by simp only [pickOps, ho']
    rw [hp, List.map_cons] at h
    have hw : wpOp P l.toArray Q i (wpList P l.toArray Q ((pickOps l ts).map (·.2))) a w := by unfold wpOp; simp only [ho]; exact h
    exact wpOp_mono (fun a' w' h' => wpAny_of_seqT ts _ a' w' hB.2 h') hw
theorem wpAnyG_lex (hrefl : Le w0 w0) {l : List Oper} (hd : depsB md l.toArray hv = true) {n : Nat → Bool} {tail : List Nat} {R : Act → (Nat → Value) → Prop} (hsel : Region.noSelect l.toArray = true) (hs : sinkT md l.toArray n = true) (hnt : ∀ t ∈ tail, n t = false) :
    ∀ (hd' : List Nat) (listed : Array Bool) (a : Act) (f : Nat → Value), (∀ i ∈ hd', n i = true) → GInv md l.toArray listed → ordHead md l.toArray tail hd' listed = true → wpG P l.toArray Le w0 Ψ hv R (pickOps l hd') a f →
    wpAnyG P md l.toArray Le w0 Ψ hv n (fun listed' a' f' => seqT md l.toArray tail listed' = true ∧ R a' f' ∧ (∀ i ∈ hd', listed'.getD i false = true) ∧ (∀ i, listed.getD i false = true → listed'.getD i false = true)) hd'.length listed a f
  | [], listed, a, f, _, _, hB, h => ⟨by simpa [ordHead] using hB, h, fun i hi => (by cases hi), fun i h => h⟩
  | k :: hd', listed, a, f, hn, inv, hB, h => by
    simp only [ordHead, Bool.and_eq_true] at hB
    obtain ⟨⟨hr, hf⟩, hB'⟩ := hB
    have hr' : k ∈ Region.ready md l.toArray listed := by simpa using hr
    obtain ⟨_, o, h0, _⟩ := mem_ready.1 hr'
    have h0' : l[k]? = some o := by simpa using h0
    have hp : pickOps l (k :: hd') = (k, o) :: pickOps l hd' := by simp only [pickOps, h0']
    rw [hp] at h
    have hks : k < listed.size := by rw [inv.size]; exact (Array.getElem?_eq_some_iff.1 h0).1
    have hself : (listed.setIfInBounds k true).getD k false = true := by simp [hks]
    have hg : gOp P l.toArray Le w0 Ψ hv k (wpG P l.toArray Le w0 Ψ hv R (pickOps l hd')) a f := by
      unfold gOp
      simp only [h0]
      unfold wpG at h
      exact h
    refine wpAnyG_first hrefl hd h0 (Region.noSelect_spec hsel) hs (hn k (by simp)) (fun listed' a' f' hL => seqT_ready hnt hL.1) hd'.length listed a f inv (Region.free_spec h0 hf) hr' (gOp_mono (fun a' f' h' => ?_) hg)
    have IH := wpAnyG_lex hrefl hd hsel hs hnt hd' _ a' f' (fun i hi => hn i (List.mem_cons_of_mem _ hi)) (inv.set hr') hB' h'
    refine wpAnyG_weaken (fun listed' a' f' hh => ⟨hh.1, hh.2.1, fun i hi => ?_, fun i hi => hh.2.2.2 i (getD_set_true hi)⟩) _ _ _ _ IH
    rcases List.mem_cons.1 hi with e | hi
    · subst e; exact hh.2.2.2 i hself
    · exact hh.2.2.1 i hi
def growB (md : Region.Mode) (ops : Array Oper) (hd tail : List Nat) : Bool :=
  Region.noSelect ops && decide (hd.length + tail.length = ops.size) && sinkT md ops (fun i => hd.contains i) && tail.all (fun t => !hd.contains t) && ordHead md ops tail hd (Array.replicate ops.size false)
/-- one walk serves every order: hd: the operations that let memory grow, in one order; tail: those behind all others -/
theorem wp_region_grow {id : Nat} {Q : Exit → Act → World → Prop} {a : Act} {w : World} {l : List Oper} (hd tail : List Nat) (Le : World → World → Prop) (Ψ : Nat → Value → World → Prop) (hv : Nat → Option (List Nat)) (hm : P.follows .mixedOrders = true) (hB : growB .any l.toArray hd tail = true)
    (hdep : depsB .any l.toArray hv = true) (law : Lawful Le Ψ) (hrefl : Le w.drew w.drew)
    (h : wpG P l.toArray Le w.drew Ψ hv (fun a' f => ∀ p : LaterG Le w.drew, (∀ h ds, h ∈ hd → hv h = some ds → Ψ h (f h) p.W) → wpList P l.toArray Q ((pickOps l tail).map (·.2)) a' p.W) (pickOps l hd) a (fun _ => undef)) : (Code.region id l.toArray true).wp P Q a w := by
  simp only [growB, Bool.and_eq_true, decide_eq_true_eq] at hB
  obtain ⟨⟨⟨⟨hsel, hlen⟩, hs⟩, hnt⟩, hord⟩ := hB
  have hnt' : ∀ t ∈ tail, (fun i => hd.contains i) t = false := fun t ht => by
    have := List.all_eq_true.1 hnt t ht
    simpa using this
  have inv0 : GInv .any l.toArray (Array.replicate l.toArray.size false) := ⟨by simp, fun j oj _ hl => (by rw [getD_replicate_false] at hl; cases hl)⟩
  have H := wpAnyG_lex (md := .any) (l := l) (n := fun i => hd.contains i) hrefl hdep hsel hs hnt' hd _ a _ (fun i hi => by simpa using hi) inv0 hord h
  refine wp_region_any hm ?_
  have := wpAny_of_G (Q := Q) (g := tail.length) law hdep (fun listed a' f W hL hW hF => wpAny_of_seqT (md := .any) (Q := Q) tail listed a' W hL.1 (hL.2.1 ⟨W, hW⟩ (fun h ds hn e => hF h ds e (hL.2.2.1 h hn)))) _ _ _ _ w.drew H hrefl (fun h ds _ hl => by rw [getD_replicate_false] at hl; cases hl)
  rw [hlen] at this
  exact this
section
variable {R : Act → (Nat → Value) → Prop} {o : Oper} {rest : List (Nat × Oper)} {k : Nat} {a : Act} {f : Nat → Value}
theorem wpG_nil (h : R a f) : wpG P ops Le w0 Ψ hv R [] a f := h
theorem wpG_step (hk : hv k = none) (h : ∀ K : Act → Prop, (∀ a', wpG P ops Le w0 Ψ hv R rest a' f → K a') → if Region.wanted o (yielded ops a.tmps) = true then gquiet P Le w0 o a K else K (a.put o.dst undef)) : wpG P ops Le w0 Ψ hv R ((k, o) :: rest) a f := by
  unfold wpG
  simp only [hk]
  exact h _ (fun _ h => h)
theorem wpG_skip (hk : hv k = none) (hw : Region.wanted o (yielded ops a.tmps) = false) (h : wpG P ops Le w0 Ψ hv R rest (a.put o.dst undef) f) : wpG P ops Le w0 Ψ hv R ((k, o) :: rest) a f := by
  unfold wpG
  simp only [hk, hw]
  exact h
theorem wpG_heavy {ds : List Nat} (hk : hv k = some ds) (hw : Region.wanted o (yielded ops a.tmps) = true) (h : ∀ p : LaterG Le w0, factsOf Ψ ds f p.W → growUpon P Le (Ψ k) p.W ((execOp a.eval o).run P p.W))
    (hn : ∀ v, wpG P ops Le w0 Ψ hv R rest (a.put o.dst v) (upd f k v)) : wpG P ops Le w0 Ψ hv R ((k, o) :: rest) a f := by
  unfold wpG
  simp only [hk]
  exact ⟨hw, h, hn⟩
end
end
/-- memory has grown -/
def LeB (w w' : World) : Prop := Below w.heap.size w w'
theorem leB_refl (w : World) : LeB w w := Below.refl _ _
theorem leB_true (w : World) : LeB w w ↔ True := ⟨fun _ => trivial, fun _ => leB_refl w⟩
theorem LeB.trans {a b c : World} (h : LeB a b) (h' : LeB b c) : LeB a c := Below.trans h (Below.mono h' h.size)
instance laterGInh (w : World) : Inhabited (LaterG LeB w) := ⟨⟨w, leB_refl w⟩⟩
theorem lawfulB {Ψ : Nat → Value → World → Prop} (h : ∀ {k v W W'}, LeB W W' → Ψ k v W → Ψ k v W') : Lawful LeB Ψ := ⟨LeB.trans, h⟩
theorem LaterG.cell {w : World} (p : LaterG LeB w) {b o : Nat} {v : Value} (h : w.cell? ⟨b, o, none⟩ = some v) : p.W.cell? ⟨b, o, none⟩ = some v := below_cell p.by_ h
theorem LaterG.drewCell {w : World} (p : LaterG LeB w.drew) {b o : Nat} {v : Value} (h : w.cell? ⟨b, o, none⟩ = some v) : p.W.cell? ⟨b, o, none⟩ = some v := below_cell (w := w.drew) p.by_ h
theorem LaterG.below {w : World} (p : LaterG LeB w.drew) : Below w.heap.size w p.W := (Below.refl w.heap.size w).drew.trans p.by_
/-- a call whose contract says that memory has grown -/
theorem grow_call {P : Program} {Φ : Value → World → Prop} {W : World} {fn : FuncId} {args : Array Value} {v : Value} (h : Calls P fn args W (Gives v W)) (hp : ∀ W', LeB W W' → Φ v W') : growUpon P LeB Φ W (.ok (.enter fn args) W) :=
  ⟨leB_refl W, h.mono fun _ W' ⟨he, hb⟩ => ⟨v, he, hb, hp W' hb⟩⟩
end Go.Proofs.Ytmlhpchabnajkaa
