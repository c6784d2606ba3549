import Derived.Test.YthidfoohhhkobaaH16
import Derived.Test.YthidfoohhhkobaaH14
import Derived.Defers
import Derived.Recover
import Derived.Test.YthidfoohhhkobaaH17
namespace Go.Proofs.Ythidfoohhhkobaa
set_option linter.unusedVariables false
set_option linter.unusedSimpArgs false
open Go.RowKit
section
variable {P : Program} {B : Base} {T : Tab} {ops : Array Oper} {o : Oper} {s : St} {K : St → Prop} {Q : AQ} {D0 : List Deferred}
theorem slot_okD {x : Operand} {asA : Array Operand} {ts : Array TypeId} (hop : o.op = .call ⟨.value x, asA, ts⟩) {fv : V} {vs : List V} (hF : ∀ E a, Gam P B s E a → RV E fv (a.eval x)) (hA : ∀ E a, Gam P B s E a → RVL E vs (asA.toList.map a.eval)) (h : slotK P B fv vs o.dst s K) {Q : Exit → Act → World → Prop} {N : Act → World → Prop}
    (hN : ∀ (a0 : Act) (u : Value) (s' : St) (E : Env), a0.defers = D0 → K s' → Gam P B s' E (a0.put o.dst u) → N (a0.put o.dst u) E.w) : ∀ E a, Gam P B s E a → a.defers = D0 → o.wpIn (fen B.r) 0 P a E.w N Q := by
  intro E a hG hD
  have hargs := hA E a hG
  have hmap : asA.map a.eval = (asA.toList.map a.eval).toArray := by rw [← Array.toList_map, Array.toArray_toList]
  have hfv := hF E a hG
  have fin : ∀ (f : FuncId) (cap : List V) (us : List Value), callI P B f (vs ++ cap) o.dst s K ⟨⟩ → a.eval x = .func (.func f) #[] us.toArray → RVL E cap us → o.wpIn (fen B.r) 0 P a E.w N Q := by
    intro f cap us hc hv hu
    have hrun : (execOp a.eval o).run P E.w = .ok (.enter f (asA.toList.map a.eval ++ us).toArray) E.w := by
      have : (asA.toList.map a.eval ++ us).toArray = asA.map a.eval ++ us.toArray := by rw [hmap]; simp
      rw [this]
      simp [execOp, hop, resolve, hv, Deferred.ofValue, invoke, run_callFunc hc.1]
    refine Upon.wpIn (R := fun u w' => ∃ E' s', E'.w = w' ∧ Gam P B s' E' (a.put o.dst u) ∧ K s') ?_ (fun v w' ⟨E', s', e, hG', hK⟩ => by subst e; exact hN a _ s' E' hD hK hG')
    rw [hrun]
    simp only [Upon]
    exact (hc.2 E a _ hG (RVL.append hargs hu)).mono fun e w' ⟨u, E', s', h1, h2⟩ => ⟨u, h1, E', s', h2⟩
  unfold slotK at h
  split at h <;> try exact h.elim
  · simp only [RV] at hfv
    obtain ⟨us, h1, h2⟩ := hfv
    exact fin _ _ us h h1 h2
  · obtain ⟨⟨rfl, rfl⟩, h⟩ := h
    simp only [RV, RD] at hfv
    exact fin _ [] [] (by simpa using h) hfv (by simp [RVL])
  · simp only [RV] at hfv
    obtain ⟨h1, l, h2⟩ := hfv
    obtain ⟨hr, hy⟩ := h
    obtain ⟨fn, tmps, assign, body, g1, g2⟩ := hy E a l _ hG (by rw [h1, h2]) hargs
    rw [hr]
    refine ⟨fun _ _ => trivial, ?_⟩
    have hrun : ((Oper.semAt (fen none).round a.eval o).run P E.w) = .ok (.round l fn tmps assign body) E.w := by
      show (execOp a.eval o).run P E.w = _
      rw [← g1, ← hmap]
      simp [execOp, hop, resolve, h2, Deferred.ofValue, invoke]
    rw [hrun]
    refine ⟨fun h => (by cases h), ?_⟩
    refine g2.mono ?_
    rintro e w' ⟨u, E', s', rfl, rfl, hG', hK⟩
    exact hN a _ s' E' hD hK hG'
  · obtain ⟨f, fst, cap, h1, h2, h3⟩ := h E a _ _ hG hfv hargs
    have hrun : (execOp a.eval o).run P E.w = .ok (.enter f (fst ++ (asA.toList.map a.eval).toArray ++ cap)) E.w := by
      rw [← hmap]
      simp [execOp, hop, resolve, h1, Deferred.ofValue, invoke, run_callFunc h2]
    refine Upon.wpIn (R := fun u w' => ∃ E' s', E'.w = w' ∧ Gam P B s' E' (a.put o.dst u) ∧ K s') ?_ (fun v w' ⟨E', s', e, hG', hK⟩ => by subst e; exact hN a _ s' E' hD hK hG')
    rw [hrun]
    simp only [Upon]
    exact h3.mono fun e w' ⟨u, E', s', h1, h2⟩ => ⟨u, h1, E', s', h2⟩
theorem rwp_listD (hT : TabOk P T) (hops : ∀ o ∈ ops.toList, opOk B.N o = true) {Q : Exit → Act → World → Prop} : ∀ (l : List Oper) (s : St) (K : St → Prop), (l.all (opOk B.N)) = true → rwp P B T ops l s K → (∀ s', K s' → ∀ E a, Gam P B s' E a → a.defers = D0 → Q .normal a E.w) → ∀ E a, Gam P B s E a → a.defers = D0 → wpListIn (fen B.r) 0 P ops Q l a E.w
  | [], s, K, _, h, hQ, E, a, hG, hD => hQ s h E a hG hD
  | o :: l, s, K, ho, h, hQ, E, a, hG, hD => by
    simp only [List.all_cons, Bool.and_eq_true] at ho
    have pd : ∀ (a : Act) (d : Option Tmp) (u : Value), a.defers = D0 → (a.put d u).defers = D0 := fun a d u h => by cases d <;> exact h
    have plain : sop P T ops o s (fun s' => rwp P B T ops l s' K) → wpListIn (fen B.r) 0 P ops Q (o :: l) a E.w := fun h => by
      obtain ⟨s', hK, hd⟩ := sop_ok (B := B) hT hops ho.1 h
      have ih := rwp_listD hT hops l s' K ho.2 hK hQ
      obtain ⟨h1, h2⟩ := hd E a hG
      unfold wpListIn
      cases hw : Region.wanted o (yielded ops a.tmps) with
      | true =>
        rw [if_pos rfl]
        refine (h1 hw).wpIn fun v w' ⟨E', e, hG'⟩ => ?_
        subst e
        exact ih E' _ hG' (pd _ _ _ hD)
      | false =>
        rw [if_neg (by simp)]
        exact ⟨fun _ _ => trivial, ih E _ (h2 hw) (pd _ _ _ hD)⟩
    have gen : ∀ op, o.op = op → Region.wanted o (yielded ops a.tmps) = true → genK P B op o.dst s (fun s' => rwp P B T ops l s' K) ⟨⟩ → wpListIn (fen B.r) 0 P ops Q (o :: l) a E.w := fun op hop hw h => by
      unfold wpListIn
      rw [if_pos hw]
      refine (h o E a hop rfl ho.1 hG).wpIn fun v w' ⟨E', s', e, hG', hK⟩ => ?_
      subst e
      exact rwp_listD hT hops l s' K ho.2 hK hQ E' _ hG' (pd _ _ _ hD)
    have hm := opOk_mem ho.1
    have hev : ∀ E a, Gam P B s E a → ∀ y ∈ o.op.operands, RV E (ev (lkT s.tm) y) (a.eval y) := fun E a hG y hy => ev_ok hG.2 y (hm y hy)
    unfold rwp at h
    split at h
    · rename_i hg
      have hw : Region.wanted o (yielded ops a.tmps) = true := by simp [Region.wanted, hg]
      split at h
      · rename_i t asA ts hop
        unfold wpListIn
        rw [if_pos hw]
        exact slot_okD (D0 := D0) hop (fun E a hG => hev E a hG (.tmp t) (by simp [hop, Op.operands, Call.operands])) (fun E a hG => RVL.of_forall _ (fun x hx => hev E a hG x (by simp only [hop, Op.operands, Call.operands]; simp [Array.mem_toList_iff.1 hx]))) h (fun a0 u s' E' hD0 hK hG' => rwp_listD hT hops l s' K ho.2 hK hQ E' _ hG' (pd _ _ _ hD0)) E a hG hD
      · rename_i f asA ts hop
        unfold wpListIn
        rw [if_pos hw]
        exact slot_okD (D0 := D0) hop (fv := .d (.c (.func (.func f) #[] #[]))) (fun E a hG => hev E a hG (.func f) (by simp [hop, Op.operands, Call.operands])) (fun E a hG => RVL.of_forall _ (fun x hx => hev E a hG x (by simp only [hop, Op.operands, Call.operands]; simp [Array.mem_toList_iff.1 hx]))) ⟨⟨rfl, rfl⟩, h⟩ (fun a0 u s' E' hD0 hK hG' => rwp_listD hT hops l s' K ho.2 hK hQ E' _ hG' (pd _ _ _ hD0)) E a hG hD
      · rename_i t x hop; exact gen _ hop hw h
      · rename_i x y hop; exact gen _ hop hw h
      · rename_i x hop; exact gen _ hop hw h
      · exact plain h
    · rename_i g hg
      split at h
      · rename_i t asA ts hop
        split at h <;> try exact h.elim
        rename_i b hgo
        have hwb := gOf_ok (P := P) (o := o) hops hgo hG hg
        unfold wpListIn
        cases b with
        | true =>
          obtain ⟨hs, h⟩ := h.1 rfl
          simp only [allP] at hs
          rw [if_pos hwb]
          exact slot_okD (D0 := D0) hop (fun E a hG => strip_ok (b := true) rfl hs.1 (hev E a hG (.tmp t) (by simp [hop, Op.operands, Call.operands]))) (fun E a hG => RVL.of_forall (e := fun x => strip (ev (lkT s.tm) x)) _ (fun x hx => strip_ok (b := true) rfl (allP_mem hs.2 _ (List.mem_map_of_mem hx)) (hev E a hG x (by simp only [hop, Op.operands, Call.operands]; simp [Array.mem_toList_iff.1 hx])))) h (fun a0 u s' E' hD0 hK hG' => rwp_listD hT hops l s' K ho.2 hK hQ E' _ hG' (pd _ _ _ hD0)) E a hG hD
        | false =>
          have h := h.2 rfl
          rw [if_neg (by rw [hwb]; simp)]
          refine ⟨fun _ _ => trivial, rwp_listD hT hops l _ K ho.2 h hQ E _ ⟨hG.1, hG.2.put (by simp [RV]) ?_⟩ (pd _ _ _ hD)⟩
          intro t' e
          have := ho.1
          simp only [opOk, Bool.and_eq_true] at this
          have := this.2
          rw [e] at this
          simpa using this
      · exact plain h

def AWD (P : Program) (B : Base) (c : Code) (Q : AQ) (_ : Tk c Q) (s : St) : Prop := ∀ E a, Gam P B s E a → a.defers = [] → c.wpIn (fen B.r) 0 P (fun x a w => ∃ E s, E.w = w ∧ Gam P B s E a ∧ a.defers = [] ∧ Q x s) a E.w
theorem awd_regionA {id : Nat} (hT : TabOk P T) (hl : (ops.toList.all (opOk B.N)) = true) (h : rwp P B T ops ops.toList s (Q .normal)) : AWD P B (.region id ops false) Q ⟨⟩ s := fun E a hG hD => by
  obtain ⟨l, rfl⟩ : ∃ l : List Oper, ops = l.toArray := ⟨ops.toList, by simp⟩
  simp only [List.toList_toArray] at hl h
  exact wpIn_region_lit (rwp_listD (D0 := []) hT (fun o ho => List.all_eq_true.1 hl o ho) l s _ hl h (fun s' hs E a hG hD => ⟨E, s', rfl, hG, hD, hs⟩) E a hG hD)
theorem awd_seq {x y : Code} (h : AWD P B x (fun e s' => match e with | .normal => AWD P B y Q ⟨⟩ s' | e => Q e s') ⟨⟩ s) : AWD P B (.seq x y) Q ⟨⟩ s := fun E a hG hD => by
  refine wpIn_seq (Code.wpIn_mono ?_ (h E a hG hD))
  rintro e a' w' ⟨E', s', rfl, hG', hD', hq⟩
  cases e <;> first | exact hq E' a' hG' hD' | exact ⟨E', s', rfl, hG', hD', hq⟩
theorem awd_skip (h : Q .normal s) : AWD P B .skip Q ⟨⟩ s := fun E a hG hD => wpIn_skip ⟨E, s, rfl, hG, hD, h⟩
theorem awd_ret (h : Q .ret s) : AWD P B .ret Q ⟨⟩ s := fun E a hG hD => wpIn_ret ⟨E, s, rfl, hG, hD, h⟩
theorem awd_cond {c : Operand} {x y : Code} {b : Bool} (hc : ev (lkT s.tm) c = .d (.c (.bool b))) (hco : constOk B.N c = true) (h1 : b = true → AWD P B x Q ⟨⟩ s) (h2 : b = false → AWD P B y Q ⟨⟩ s) : AWD P B (.cond c x y) Q ⟨⟩ s := fun E a hG hD => by
  have hv := ev_ok hG.2 c hco
  rw [hc] at hv
  simp only [RV, RD] at hv
  exact wpIn_cond_split hv (fun hb => h1 hb E a hG hD) (fun hb => h2 hb E a hG hD)
structure Tkx (c : Code) (R : Exit → Act → World → Prop) : Type where
def AWx (P : Program) (B : Base) (c : Code) (R : Exit → Act → World → Prop) (_ : Tkx c R) (s : St) : Prop := ∀ E a, Gam P B s E a → a.defers = [] → c.wpIn (fen B.r) 0 P R a E.w
theorem awx_seq {x y : Code} {R : Exit → Act → World → Prop} (hR : ∀ s' E a, Q .ret s' → Gam P B s' E a → a.defers = [] → R .ret a E.w)
    (h : AWD P B x (fun e s' => match e with | .normal => AWx P B y R ⟨⟩ s' | .ret => Q .ret s' | _ => False) ⟨⟩ s) : AWx P B (.seq x y) R ⟨⟩ s := fun E a hG hD => by
  refine wpIn_seq (Code.wpIn_mono ?_ (h E a hG hD))
  rintro e a' w' ⟨E', s', rfl, hG', hD', hq⟩
  cases e with
  | normal => exact hq E' a' hG' hD'
  | ret => exact hR s' E' a' hq hG' hD'
  | _ => exact hq.elim
end
abbrev dOf (f : FuncId) (X Y : Nat) : Deferred := { target := .fn (.func f) #[.pointer (some ⟨X, 0, none⟩), .pointer (some ⟨Y, 0, none⟩)], args := #[] }
abbrev gOfX (X Y : Nat) : Nat → Value := fun k => if k = 0 then .pointer (some ⟨X, 0, none⟩) else if k = 1 then .pointer (some ⟨Y, 0, none⟩) else undef
abbrev Bdf (w : World) (F : Ft) (N : Nat) (f : FuncId) (X Y : Nat) : Base := ⟨w, fun _ => False, F, N, gOfX X Y, none, fun _ => False, [dOf f X Y]⟩
section
variable {P : Program}
theorem lkT_append (l m : List (Nat × V)) (t : Nat) (hl : ∀ p ∈ m, p.1 ≠ t) : lkT (l ++ m) t = lkT l t := by
  induction l with
  | nil =>
    have : ∀ m : List (Nat × V), (∀ p ∈ m, p.1 ≠ t) → lkT m t = .any := by
      intro m
      induction m with
      | nil => intro _; rfl
      | cons q m ih =>
        obtain ⟨u, x⟩ := q
        intro hm
        simp only [lkT]
        rw [if_neg (fun e => hm (u, x) (by simp) e.symm)]
        exact ih fun q hq => hm q (by simp [hq])
    exact this m hl
  | cons q l ih => obtain ⟨u, x⟩ := q; simp only [List.cons_append, lkT, ih]
theorem awx_defer {w : World} {F : Ft} {N id t x y n0 n1 : Nat} {f : FuncId} {c2 : Code} {R : Exit → Act → World → Prop} {o0 o1 : Oper} {tm : List (Nat × V)} {st : List (Nat × Blk)} {nx : Nat}
    (h0 : o0.op = .makeFunc (.func f) #[] #[.tmp x, .tmp y]) (h0d : o0.dst = some t) (h0g : o0.guard = none) {tys : Array TypeId} (h1 : o1.op = .defer ⟨.value (.tmp t), #[], tys⟩) (h1d : o1.dst = none) (h1g : o1.guard = none)
    (hx : lkT tm x = .ptr n0 0) (hy : lkT tm y = .ptr n1 0) (hxN : x < N) (hyN : y < N) (htN : t < N) (htm : (tm.all fun p => decide (p.1 < N)) = true)
    (h : ∀ X Y E a, Gam P (Bdf w F N f X Y) ⟨setT t .any tm ++ [(N, .ptr n0 0), (N + 1, .ptr n1 0)], st, nx⟩ E a → c2.wpIn (fen none) 0 P R a E.w) :
    AWx P ⟨w, fun _ => False, F, N, fun _ => undef, none, fun _ => False, []⟩ (.seq (.region id #[o0, o1] false) c2) R ⟨⟩ ⟨tm, st, nx⟩ := fun E a hG hD => by
  have hvx := hG.2.tm x
  have hvy := hG.2.tm y
  rw [show lkT (St.mk tm st nx).tm x = .ptr n0 0 from hx] at hvx
  rw [show lkT (St.mk tm st nx).tm y = .ptr n1 0 from hy] at hvy
  unfold vOf at hvx hvy
  rw [if_pos hxN] at hvx
  rw [if_pos hyN] at hvy
  simp only [RV] at hvx hvy
  obtain ⟨X, x1, x2⟩ := hvx
  obtain ⟨Y, y1, y2⟩ := hvy
  refine wpIn_seq (wpIn_region_lit (l := [o0, o1]) ?_)
  have hw0 : ∀ a : Act, Region.wanted o0 (yielded #[o0, o1] a.tmps) = true := fun a => by simp [Region.wanted, h0g]
  have hw1 : ∀ a : Act, Region.wanted o1 (yielded #[o0, o1] a.tmps) = true := fun a => by simp [Region.wanted, h1g]
  unfold wpListIn
  rw [if_pos (hw0 a)]
  refine ⟨fun _ _ => trivial, ?_⟩
  have r0 : (Oper.semAt (fen none).round a.eval o0).run P E.w = .ok (.value (.func (.func f) #[] #[.pointer (some ⟨X, 0, none⟩), .pointer (some ⟨Y, 0, none⟩)])) E.w := by
    show (execOp a.eval o0).run P E.w = _
    simp [execOp, h0, Act.eval, Instr.makeFunc]
    constructor
    · simpa [Array.getD_eq_getD_getElem?] using x2
    · simpa [Array.getD_eq_getD_getElem?] using y2
  rw [r0, Oper.uponIn_value, h0d]
  unfold wpListIn
  rw [if_pos (hw1 _)]
  refine ⟨fun _ _ => trivial, ?_⟩
  have hts : a.tmps.size = N := hG.2.size
  have r1 : (Oper.semAt (fen none).round (a.put (some t) (.func (.func f) #[] #[.pointer (some ⟨X, 0, none⟩), .pointer (some ⟨Y, 0, none⟩)])).eval o1).run P E.w = .ok (.defer (dOf f X Y)) E.w := by
    show (execOp _ o1).run P E.w = _
    simp [execOp, h1, Act.eval, Act.put, resolve, Deferred.ofValue, hts, htN]
  rw [r1, Oper.uponIn_defer, h1d]
  unfold wpListIn
  refine h X Y E _ ⟨GamS.base (B := ⟨w, fun _ => False, F, N, fun _ => undef, none, fun _ => False, []⟩) (B' := Bdf w F N f X Y) rfl rfl rfl hG.1, fun k => ?_, ⟨[], ⟨?_, ?_⟩, List.nodup_nil, fun D hD => (by cases hD), fun D hD => hD.elim⟩, ?_⟩
  · show RV E (lkT (setT t .any tm ++ [(N, .ptr n0 0), (N + 1, .ptr n1 0)]) k) (if k < N then (a.put (some t) _).tmps.getD k undef else gOfX X Y (k - N))
    by_cases hk : k < N
    · rw [if_pos hk, lkT_append _ _ _ (fun p hp e => by simp only [List.mem_cons, List.not_mem_nil, or_false] at hp; rcases hp with rfl | rfl <;> (dsimp only at e; omega)), lkT_setT]
      by_cases hkt : k = t
      · rw [if_pos hkt]; simp only [RV]
      · rw [if_neg hkt]
        have := hG.2.tm k
        unfold vOf at this
        rw [if_pos hk] at this
        rw [show (a.put (some t) (.func (.func f) #[] #[.pointer (some ⟨X, 0, none⟩), .pointer (some ⟨Y, 0, none⟩)])).tmps.getD k undef = a.tmps.getD k undef by simp [Act.put, Array.getD_eq_getD_getElem?, Array.getElem?_setIfInBounds, Ne.symm hkt]]
        exact this
    · rw [if_neg hk]
      have hout : lkT (setT t .any tm ++ [(N, .ptr n0 0), (N + 1, .ptr n1 0)]) k = lkT [(N, .ptr n0 0), (N + 1, .ptr n1 0)] k := by
        have : ∀ l : List (Nat × V), (∀ p ∈ l, p.1 ≠ k) → ∀ m, lkT (l ++ m) k = lkT m k := by
          intro l
          induction l with
          | nil => intro _ m; rfl
          | cons q l ih =>
            obtain ⟨u, z⟩ := q
            intro hl m
            simp only [List.cons_append, lkT]
            rw [if_neg (fun e => hl (u, z) (by simp) e.symm)]
            exact ih (fun q hq => hl q (by simp [hq])) m
        refine this _ (fun p hp e => ?_) _
        have key : ∀ l : List (Nat × V), (∀ q ∈ l, q.1 < N) → ∀ q ∈ setT t .any l, q.1 < N := by
          intro l
          induction l with
          | nil => intro _ q hq; simp only [setT, List.mem_singleton] at hq; subst hq; exact htN
          | cons r l ih =>
            obtain ⟨u, z⟩ := r
            intro hl q hq
            unfold setT at hq
            split at hq
            · rcases List.mem_cons.1 hq with rfl | hq
              · exact hl (u, z) (by simp)
              · exact hl q (by simp [hq])
            · rcases List.mem_cons.1 hq with rfl | hq
              · exact hl _ (by simp)
              · exact ih (fun q hq => hl q (by simp [hq])) q hq
        have := key tm (fun q hq => by have := List.all_eq_true.1 htm q hq; simpa using this) p hp
        omega
      rw [hout]
      simp only [lkT]
      by_cases hk0 : k = N
      · subst hk0
        rw [if_pos rfl, Nat.sub_self]
        exact ⟨X, x1, rfl⟩
      · rw [if_neg hk0]
        by_cases hk1 : k = N + 1
        · subst hk1
          rw [if_pos rfl, Nat.add_sub_cancel_left]
          exact ⟨Y, y1, rfl⟩
        · rw [if_neg hk1]; simp only [RV]
  · show dOf f X Y :: (a.put (some t) _).defers = [] ++ [dOf f X Y]
    rw [show (a.put (some t) (.func (.func f) #[] #[.pointer (some ⟨X, 0, none⟩), .pointer (some ⟨Y, 0, none⟩)])).defers = [] from hD]
    rfl
  · intro D hD
    simp [mark, dOf] at hD
  · show (a.put (some t) _).tmps.size = N
    simp [Act.put, hts]
end
end Go.Proofs.Ythidfoohhhkobaa


namespace Go.Proofs.Ythidfoohhhkobaa
set_option linter.unusedSimpArgs false
set_option linter.unusedVariables false
open Go.RowKit
theorem callsDIn_of_wpS' {P : Program} {f : FuncId} {fn : Func} {c : Code} {args : Array Value} {u : FrameMode} {w : World} {R : Ending → FrameMode → World → Prop} {n : Nat}
    (hf : P.funcs[f]? = some fn) (hb : fn.body = some c)
    (h : ∀ (c₀ : Frame) (cs : List Frame), c₀.mode = u →
      c.wpS P (bodyPostS P fn c₀ cs R) { tmps := args ++ Array.replicate (fn.ntmps - args.size) undef, defers := [] } (c₀ :: cs) w) :
    CallsDIn Fence.wide n P f args u w R := by
  refine ⟨trivial, fun c₀ cs hu _ => ?_⟩
  let b : Frame := { (default : Frame) with fn := f, kind := .deferred }
  have henter : Frame.enter P f args .deferred =
      b.at { tmps := args ++ Array.replicate (fn.ntmps - args.size) undef, defers := [] } [.code c] := by
    simp [Frame.enter, Frame.at, hf, hb, b]
  obtain ⟨e, a', cs', w', hq, harr⟩ := h c₀ cs hu b [] rfl rfl
  rw [← henter] at harr
  cases e with
  | normal =>
    obtain ⟨hd, u', rfl, v, hr, hR⟩ := hq
    exact ⟨.returned v, u', w', _, hR, comesIn_wide.2 (Steps.trans harr (.one step_end)), rfl, rfl, rfl, hd, fn, hf, hr⟩
  | ret =>
    obtain ⟨hd, u', rfl, v, hr, hR⟩ := hq
    obtain ⟨todo, hs⟩ := harr
    exact ⟨.returned v, u', w', _, hR, comesIn_wide.2 hs, rfl, rfl, rfl, hd, fn, hf, hr⟩
  | panic chain =>
    obtain ⟨hd, u', rfl, hR⟩ := hq
    obtain ⟨todo, hs⟩ := harr
    exact ⟨.panicked chain, u', w', _, hR, comesIn_wide.2 hs, rfl, rfl, rfl, hd, fn, hf⟩
  | exit id => exact hq.elim
  | goto l => exact hq.elim
  | outgrown =>
    obtain ⟨u', hR⟩ := hq
    exact ⟨.outgrown, u', w', b, hR, comesIn_wide.2 (harr.resolve_left (by simp [b])), rfl, rfl, trivial⟩
set_option maxRecDepth 100000 in
set_option maxHeartbeats 1000000 in
theorem do1_idle (pv pe : Value) (w : World) (n : Nat) :
    CallsDIn Fence.wide n Try.prog 27 #[pv, pe] .returning w fun e u' w' => e = .returned (.tuple #[]) ∧ u' = .returning ∧ w' = w := by
  refine callsDIn_of_wpS' Try.func27 rfl fun c₀ cs hu => ?_
  apply wpS_seq
  apply wpS_region
  simp [wpOpsS, go_sem, recoverD, hu, Try.ntmps27, Exit.thenS]
  refine wpS_of_wp ?_
  go_wp2
  cases c₀
  simp_all [bodyPostS, results, Try.results27]
theorem typeAssert54 (e : Int) : ∀ w, (Instr.typeAssert (.iface 48 (.int .i64 e)) 20 48 true).run Try.prog w = .ok (.tuple #[.int .i64 e, .bool true]) w := fun _ => by kernel_rfl
set_option maxRecDepth 100000 in
set_option maxHeartbeats 1000000 in
theorem do1_code (X Y : Nat) (c0 c1 c2 ev : Value) (w : World) (n : Nat) (e : Int) (hX : w.heap[X]? = some (.cells #[c0, c1, c2] 31 (0, 0))) (hY : w.heap[Y]? = some (.cells #[ev] 48 (0, 0))) (hne : X ≠ Y) :
    CallsDIn Fence.wide n Try.prog 27 #[.pointer (some ⟨X, 0, none⟩), .pointer (some ⟨Y, 0, none⟩)] (.panicking [{ v := .iface 48 (.int .i64 e), recovered := false }]) w fun r u' w' =>
      r = .returned (.tuple #[]) ∧ u' = .panicking [{ v := .iface 48 (.int .i64 e), recovered := true }] ∧ w' = ((((w.setCell ⟨X, 0, none⟩ (.slice none 0 0)).setCell ⟨X, 1, none⟩ (.slice none 0 0)).setCell ⟨X, 2, none⟩ (.slice none 0 0)).setCell ⟨Y, 0, none⟩ (.int .i64 e)) := by
  refine callsDIn_of_wpS' Try.func27 rfl fun c₀ cs hu => ?_
  apply wpS_seq
  apply wpS_region
  simp [wpOpsS, go_sem, recoverD, hu, Try.ntmps27, Exit.thenS]
  refine wpS_of_wp ?_
  simp only [Array.replicate_succ, Array.replicate_zero, List.push_toArray, List.append_toArray, List.nil_append, List.cons_append, List.setIfInBounds_toArray, List.set_cons_zero, List.set_cons_succ]
  have x0 : w.cell? ⟨X, 0, none⟩ = some c0 := by simp [World.cell?, hX]
  have x1 : w.cell? ⟨X, 1, none⟩ = some c1 := by simp [World.cell?, hX]
  have x2 : w.cell? ⟨X, 2, none⟩ = some c2 := by simp [World.cell?, hX]
  have f0 : w.frozen? ⟨X, 0, none⟩ = false := by simp [World.frozen?, hX]
  have f1 : w.frozen? ⟨X, 1, none⟩ = false := by simp [World.frozen?, hX]
  have f2 : w.frozen? ⟨X, 2, none⟩ = false := by simp [World.frozen?, hX]
  have y0 : w.cell? ⟨Y, 0, none⟩ = some ev := by simp [World.cell?, hY]
  have yf : w.frozen? ⟨Y, 0, none⟩ = false := by simp [World.frozen?, hY]
  clear hX hY
  have hne' : ¬ Y = X := fun h => hne h.symm
  have hta := typeAssert54 e
  go_wp2
  exact ⟨rfl, .panicking [{ v := .iface 48 (.int .i64 e), recovered := true }], rfl, .tuple #[], by simp [results, Try.results27], rfl, rfl, rfl⟩
section
variable {P : Program} {T : Tab}
def RQ (w : World) (F : Ft) (r : Ret) (e : Ending) (w' : World) : Prop := ∃ v F', e = .returned v ∧ Below w.heap.size w w' ∧ FtNew F F' w w' ∧ RRet F' w' r v
theorem leave_ret {w : World} {F : Ft} {N : Nat} {g : Nat → Value} {df : List Deferred} {fn : Func} {r : Ret} {rs : List ResultVar} {s : St} {E : Env} {a : Act} (hT : TabOk P T) (hr : fn.results = rs.toArray) (hrs : (rs.all (rvOk N)) = true)
    (hG : Gam P ⟨w, fun _ => False, F, N, g, none, fun _ => False, df⟩ s E a) (h : retL T s.st s.tm rs (fun vs => RetV vs r)) : ∃ v, (results fn a.tmps).run P E.w = .ok v E.w ∧ RQ w F r (.returned v) E.w := by
  obtain ⟨vs, h12, h3, h4⟩ := retL_ok (B := ⟨w, fun _ => False, F, N, g, none, fun _ => False, df⟩) hT hrs h
  obtain ⟨asA', h1, h2⟩ := h12.get
  obtain ⟨us', h5, h6⟩ := h4 E a hG
  have h5 : (fn.results.toList.mapM (resOne a.tmps)).run P E.w = .ok us' E.w := by rw [hr]; exact h5
  have h7 := toAs_ok h1 h6
  refine ⟨_, results_run h5, _, E.F, rfl, ⟨hG.1.os, hG.1.tape, hG.1.output, hG.1.size, fun b hb => hG.1.old b hb (fun h => h)⟩, ⟨hG.1.F0, fun b o hb => ?_, fun b hb => ?_⟩, ?_⟩
  · have := hG.1.Fc b o hb
    rcases this.1 with h8 | h8 | h8
    · exact .inl h8
    · exact .inr ⟨h8, this.2⟩
    · exact h8.elim
  · have := hG.1.Fm b hb
    rcases this.1 with h8 | h8 | h8
    · exact .inl h8
    · exact .inr ⟨h8, this.2⟩
    · exact h8.elim
  · have hl := h7.len
    unfold RetOk at h2
    split at h2
    · rename_i a b
      simp only [RAL] at h7
      obtain ⟨u, r', rfl, h8, rfl⟩ := h7
      exact h2 _ _ _ h8
    · rename_i a a2 as2 bs
      have hne : ¬ us'.toArray.size = 1 := by simp at hl ⊢; omega
      rw [dif_neg hne]
      exact ⟨us', rfl, subL_ok h2 h7⟩
    · have hl0 : us'.length = 0 := by simpa using hl
      have hne : ¬ us'.toArray.size = 1 := by simp only [List.size_toArray]; omega
      rw [dif_neg hne]
      exact ⟨us', rfl, subL_ok h2 h7⟩
    · exact h2.elim
theorem gam_write {B : Base} {s : St} {E : Env} {a : Act} {n X : Nat} {t : TypeId} {cs : List V} (hG : Gam P B s E a) (hn : lkB s.st n = some (.cells t cs)) (hη : E.η n = some (.pointer (some ⟨X, 0, none⟩))) (xs : List D) (us : List Value) (hl : us.length = cs.length) (hd : RDL E.F E.w xs us) (h1 : ∀ u ∈ us, u.oneCell' = true) (hst : ∀ E' : Env, Ext E E' → RDL E'.F E'.w xs us) :
    ∃ E', E'.w = E.w.setCells X 0 us ∧ E'.η = E.η ∧ Gam P B ⟨s.tm, setB n (.cells t (dV xs)) s.st, s.nx⟩ E' a := by
  obtain ⟨b', cur, k1, k2, k3, k4, k5⟩ := hG.1.st n _ hn
  rw [hη] at k1
  cases k1
  have hl2 := k3.len
  obtain ⟨f1, f2, f3, f4, f5⟩ := setCells_facts X us 0 E.w
  have hW := GamS.write (x := .cells t cs) (x' := .cells t (dV xs)) (σ' := lkB (setB n (.cells t (dV xs)) s.st)) (w' := E.w.setCells X 0 us) hG.1 hn (fun m => lkB_setB _ _ _ _) hη rfl (fun o' ho' => (k5.2.2.2 o' ho').elim) f1 f2 f3 f4 f5 (fun E' hE' hext hok => by
    subst hE'
    refine ⟨X, spliceU cur 0 us, hη, setCells_splice k2 (by omega), ?_, fun u hu => ?_, hok⟩
    · have : spliceU cur 0 us = us := by
        unfold spliceU
        rw [List.take_zero, List.nil_append, List.drop_eq_nil_of_le (by omega), List.append_nil]
      rw [this]
      exact RVL.of_data (hst _ hext)
    · unfold spliceU at hu
      rw [List.take_zero, List.nil_append, List.drop_eq_nil_of_le (by omega), List.append_nil] at hu
      exact h1 u hu)
  exact ⟨⟨E.η, E.F, E.w.setCells X 0 us, E.dp⟩, rfl, rfl, hW.1, hG.2.ext hW.2 rfl⟩
end
theorem do_bad {w : World} {F : Ft} {X Y : Nat} {E : Env} {a : Act} {s : St} {e : Int} {r0 r1 r2 v : V} (hG : Gam Try.prog (Bdf w F 40 27 X Y) s E a) (h4 : lkT s.tm 4 = .ptr 0 0) (h5 : lkT s.tm 5 = .ptr 1 0) (g0 : lkT s.tm 40 = .ptr 0 0) (g1 : lkT s.tm 41 = .ptr 1 0)
    (hb0 : lkB s.st 0 = some (.cells 31 [r0, r1, r2])) (hb1 : lkB s.st 1 = some (.cells 48 [v])) :
    LeavesInM Fence.wide 0 Try.prog Try.f12 a.tmps (RQ w F (.rt [aRoom room0, aI e])) a.defers (.panicking [{ v := .iface 48 (.int .i64 e), recovered := false }]) E.w := by
  obtain ⟨ds, hds, hnd, hdp, hgd⟩ := hG.2.defers
  obtain ⟨E1, hS, hX, hk, hL⟩ := leaves_ofG (fn := Try.f12) (u := .panicking [{ v := .iface 48 (.int .i64 e), recovered := false }]) (X := [dOf 27 X Y]) (R := RQ w F (.rt [aRoom room0, aI e])) (by simp) ds E hG.1 hnd (fun D hD => (hdp D hD).1) a.tmps
  rw [hds.1]
  refine hL ?_
  have hG1 : Gam Try.prog (Bdf w F 40 27 X Y) s E1 ⟨a.tmps, [dOf 27 X Y]⟩ := ⟨hS, fun t => RV.mono hX _ _ (hG.2.tm t), ⟨[], ⟨rfl, hds.2⟩, List.nodup_nil, fun D hD => (by cases hD), fun D hD => hD.elim⟩, hG.2.size⟩
  have p0 := hG1.2.tm 40
  have p1 := hG1.2.tm 41
  rw [g0] at p0
  rw [g1] at p1
  simp only [RV] at p0 p1
  obtain ⟨b0, e0, q0⟩ := p0
  obtain ⟨b1, e1, q1⟩ := p1
  have hb0X : X = b0 := by
    have : (Value.pointer (some ⟨X, 0, none⟩)) = .pointer (some ⟨b0, 0, none⟩) := q0
    simpa using this
  have hb1Y : Y = b1 := by
    have : (Value.pointer (some ⟨Y, 0, none⟩)) = .pointer (some ⟨b1, 0, none⟩) := q1
    simpa using this
  subst hb0X hb1Y
  obtain ⟨c0, u0, j0, m0, n0, _, ok0⟩ := hG1.1.st 0 _ hb0
  obtain ⟨c1, u1, j1, m1, n1, _, ok1⟩ := hG1.1.st 1 _ hb1
  rw [e0] at j0
  rw [e1] at j1
  cases j0
  cases j1
  obtain ⟨x0, x1, x2, rfl⟩ : ∃ a b c, u0 = [a, b, c] := by
    have := n0.len
    match u0, this with
    | [a, b, c], _ => exact ⟨a, b, c, rfl⟩
  obtain ⟨y0, rfl⟩ : ∃ a, u1 = [a] := by
    have := n1.len
    match u1, this with
    | [a], _ => exact ⟨a, rfl⟩
  have hne : X ≠ Y := fun h => hG1.1.dist 0 1 _ _ X _ _ (by decide) hb0 hb1 e0 e1 rfl (by rw [h]; rfl)
  refine ⟨by simp, .inr ⟨fun h => (by cases h), _, _, _, _, rfl, by simp [invoke, Try.func27], fun _ _ => trivial, (do1_code X Y x0 x1 x2 y0 E1.w _ e m0 m1 hne).mono ?_⟩⟩
  rintro r u' w' ⟨rfl, rfl, rfl⟩
  obtain ⟨E2, w2, η2, hG2⟩ := gam_write hG1 hb0 e0 [.c (.slice none 0 0), .c (.slice none 0 0), .c (.slice none 0 0)] [.slice none 0 0, .slice none 0 0, .slice none 0 0] rfl (by simp [RDL, RD]) (by simp [Value.oneCell']) (fun E' _ => by simp [RDL, RD])
  obtain ⟨E3, w3, η3, hG3⟩ := gam_write (n := 1) (X := Y) (t := 48) (cs := [v]) hG2 (by show lkB (setB 0 _ s.st) 1 = _; rw [lkB_setB, if_neg (by decide)]; exact hb1) (by rw [η2]; exact e1) [.c (.int .i64 e)] [.int .i64 e] rfl (by simp [RDL, RD]) (by simp [Value.oneCell']) (fun E' _ => by simp [RDL, RD])
  have hw3 : E3.w = ((((E1.w.setCell ⟨X, 0, none⟩ (.slice none 0 0)).setCell ⟨X, 1, none⟩ (.slice none 0 0)).setCell ⟨X, 2, none⟩ (.slice none 0 0)).setCell ⟨Y, 0, none⟩ (.int .i64 e)) := by
    rw [w3, w2]; rfl
  rw [← hw3]
  refine leave_ret (a := ⟨a.tmps, [dOf 27 X Y]⟩) (T := T) (rs := [.cell 4 31, .cell 5 48]) T_ok rfl rfl hG3 ?_
  simp only [↓avP, avQ, avR, forall_const, implies_true, reduceIte, Nat.reduceEqDiff, Nat.reduceAdd, Nat.reduceSub, Int.reduceToNat, Nat.reduceLeDiff, Nat.reduceLT, reduceCtorEq, Int.reduceEq, avS, ty_31, ty_48, ty_25, ty_29, ty_26, ty_27, h4, h5, lkB_setB]
  exact ⟨sub_room0, Sub.refl _⟩
theorem do_good {w : World} {F : Ft} {X Y : Nat} {E : Env} {a : Act} {s : St} {r : Ret} (hG : Gam Try.prog (Bdf w F 40 27 X Y) s E a) (h : retL T s.st s.tm [.cell 4 31, .cell 5 48] (fun vs => RetV vs r)) :
    LeavesInM Fence.wide 0 Try.prog Try.f12 a.tmps (RQ w F r) a.defers .returning E.w := by
  obtain ⟨ds, hds, hnd, hdp, hgd⟩ := hG.2.defers
  obtain ⟨E1, hS, hX, hk, hL⟩ := leaves_ofG (fn := Try.f12) (u := .returning) (X := [dOf 27 X Y]) (R := RQ w F r) (by simp) ds E hG.1 hnd (fun D hD => (hdp D hD).1) a.tmps
  rw [hds.1]
  refine hL ?_
  have hG1 : Gam Try.prog (Bdf w F 40 27 X Y) s E1 ⟨a.tmps, [dOf 27 X Y]⟩ := ⟨hS, fun t => RV.mono hX _ _ (hG.2.tm t), ⟨[], ⟨rfl, hds.2⟩, List.nodup_nil, fun D hD => (by cases hD), fun D hD => hD.elim⟩, hG.2.size⟩
  refine ⟨by simp, .inr ⟨fun h => (by cases h), _, _, _, _, rfl, by simp [invoke, Try.func27], fun _ _ => trivial, (do1_idle (.pointer (some ⟨X, 0, none⟩)) (.pointer (some ⟨Y, 0, none⟩)) E1.w _).mono ?_⟩⟩
  rintro x u' w' ⟨rfl, rfl, rfl⟩
  exact leave_ret (a := ⟨a.tmps, [dOf 27 X Y]⟩) (T := T) (rs := [.cell 4 31, .cell 5 48]) T_ok rfl rfl hG1 h
end Go.Proofs.Ythidfoohhhkobaa


namespace Go.Proofs.Ythidfoohhhkobaa
set_option linter.unusedSimpArgs false
set_option linter.unusedVariables false
open Go.RowKit
set_option maxRecDepth 100000
set_option maxHeartbeats 4000000
def fnOf (k : Int) : FuncId := if k = 1 then 22 else if k = 2 then 23 else if k = 3 then 24 else if k = 4 then 25 else 26
theorem netChk_of {r : RoomP} (h : roomChk r = 0) : netChk r.net = 0 ∧ r.peers.length ≤ 24 ∧ (∀ l ∈ r.peers, knownB l = true) ∧ ∀ p ∈ r.net.queue, pkB r.peers.length p = true := by
  unfold roomChk at h
  split at h
  · cases h
  · rename_i h1
    split at h
    · rename_i h2
      rw [Bool.and_eq_true] at h2
      exact ⟨by omega, by omega, fun l hl => List.all_eq_true.1 h2.1 l hl, fun p hp => List.all_eq_true.1 h2.2 p hp⟩
    · cases h
theorem ord_known {l : List Hd} (h : knownB l = true) : ordH l := by
  unfold knownB at h
  rw [Bool.and_eq_true] at h
  have h1 := List.all_eq_true.1 h.1
  have key : ∀ (n i j : Nat), j = i + n + 1 → j < l.length → befB (l.getD i default) (l.getD j default) = true := by
    intro n
    induction n with
    | zero =>
      intro i j hj hl
      have := h1 j (by simpa using hl)
      unfold knownAt at this
      rw [Bool.and_eq_true, Bool.or_eq_true] at this
      rcases this.2 with h | h
      · have := of_decide_eq_true h; omega
      · rw [show j - 1 = i by omega] at h; exact h
    | succ n ih =>
      intro i j hj hl
      exact bef_trans (ih i (j - 1) (by omega) (by omega)) (by
        have := h1 j (by simpa using hl)
        unfold knownAt at this
        rw [Bool.and_eq_true, Bool.or_eq_true] at this
        rcases this.2 with h | h
        · have := of_decide_eq_true h; omega
        · exact h)
  unfold ordH
  rw [List.pairwise_iff_getElem]
  intro i j hi hj hij
  have := key (j - i - 1) i j (by omega) hj
  rwa [getD_atH hi, getD_atH hj] at this
theorem pk_to {r : RoomP} {p : Pk} (h : pkB r.peers.length p = true) : (readH p.data).2 = true ∧ p.to_ < r.peers.length := by
  unfold pkB at h
  rw [Bool.and_eq_true, Bool.not_eq_true'] at h
  refine ⟨h.1, ?_⟩
  have := of_decide_eq_false h.2
  split at this <;> omega
theorem pk_pos {p : Pk} (h : packetB p = true) : 0 ≤ p.to_ ∧ 0 ≤ p.frm := by
  unfold packetB linkB mm at h
  simp only [Bool.and_eq_true, decide_eq_true_eq] at h
  obtain ⟨⟨⟨h1, h2⟩, h3⟩, h4⟩ := h
  split at h1 <;> split at h2 <;> omega
theorem hOk_setF (i : Nat) {e : Cd.V} {h : Hd} (he : Cd.i64R (vN e)) (hh : hOk h) : hOk (setF i e h) := by
  obtain ⟨h1, h2, h3, h4, h5, h6, h7, h8, h9, h10⟩ := hh
  unfold setF
  split <;> (refine ⟨?_, ?_, ?_, ?_, ?_, ?_, ?_, ?_, ?_, ?_⟩ <;> first | exact he | assumption)
theorem hOk_hS {l : List Cd.V} (hl : ∀ i, Cd.i64R (vN (elAt l i))) : ∀ k, hOk (hS l k)
  | 0 => hOk_zero
  | k + 1 => hOk_setF k (hl k) (hOk_hS hl k)
theorem read_hOk {b : List UInt8} (hb : b.length ≤ 1000000) : hOk (readH b).1 := by
  unfold readH
  cases hd : Cd.dec b with
  | none => exact hOk_zero
  | some v =>
    have hv := dec_fits hb hd
    show hOk (rdV v).1
    unfold rdV
    split
    · refine hOk_hS (fun i => ?_) _
      rcases Nat.lt_or_ge i (vL v).length with h | h
      · obtain ⟨k, n, t, l⟩ := v
        simp only [Cd.V.fits] at hv
        exact vN_R (fits_at l i hv.2.2.2.2 h)
      · unfold elAt
        rw [List.getD_eq_getElem?_getD, List.getElem?_eq_none h]
        exact ⟨by decide, by decide⟩
    · exact hOk_zero
section
variable {w : World} {F : Ft} {d : Deferred} {gh : Nat → Value} {r : RoomP} {a : ActP}
theorem act_ok (ho : okRoom r) (hc : roomChk r = 0) (hf : fewR r) (ha : hOk a.hand) (hE : doE r a = 0) : callI Try.prog (Bdo w F d gh) (fnOf a.kind) [.ptr 2 0, .agg (dV (actD a))] (some 37) (sAt (fnOf a.kind) a r) (fun s' => Wk Try.prog (Bdo w F d gh) s' (sTo (doR r a))) ⟨⟩ := by
  obtain ⟨n1, n2, n3, n4⟩ := netChk_of hc
  have hR : doR r a = actR r a := by rw [doR, if_pos hE]
  have hA : actE r a = 0 := by have := hE; unfold doE at this; rw [if_neg (by omega)] at this; exact this
  have hp : ∀ l ∈ r.peers, l.length ≤ 1000 ∧ ordH l ∧ ∀ x ∈ l, hOk x := fun l hl => ⟨hf.2 l hl, ord_known (n3 l hl), (ho.2.1 l hl).2⟩
  rw [hR]
  unfold actE at hA
  unfold fnOf
  by_cases k1 : a.kind = 1
  · rw [show actR r a = ⟨setPeer r.peers a.peer a.hand, ⟨r.net.queue ++ tellPk r.peers.length a.peer a.hand, r.net.apart⟩⟩ by unfold actR; rw [if_pos k1]]
    simp only [if_pos k1] at hA ⊢
    split at hA
    · cases hA
    rename_i h1
    split at hA
    · cases hA
    rename_i h2
    exact tell_ok w F d gh r a (by simpa using h1) ha (by simpa using h2) hp n1 hf.1 n2 ho.2.2.1
  simp only [if_neg k1] at hA ⊢
  by_cases k2 : a.kind = 2
  · rw [show actR r a = ⟨r.peers, ⟨r.net.queue ++ syncPk (r.peers.getD a.peer.toNat []) a.peer a.to_, r.net.apart⟩⟩ by unfold actR; rw [if_neg k1, if_pos k2]]
    simp only [if_pos k2] at hA ⊢
    split at hA
    · cases hA
    rename_i h1
    refine sync_ok w F d gh r a ?_ ?_ ?_ (fun l hl => ⟨(hp l hl).1, (hp l hl).2.2⟩) n1 hf.1 n2 ho.2.2.1
    · cases hx : inR r a.peer with | true => rfl | false => exact absurd (.inl hx) h1
    · cases hx : inR r a.to_ with | true => rfl | false => exact absurd (.inr (.inl hx)) h1
    · exact fun e => h1 (.inr (.inr e))
  simp only [if_neg k2] at hA ⊢
  by_cases k3 : a.kind = 3
  · rw [show actR r a = ⟨if (delP r.net a.at_).frm = (delP r.net a.at_).to_ then r.peers else setPeer r.peers (delP r.net a.at_).to_ (readH (delP r.net a.at_).data).1, loseN r.net a.at_⟩ by unfold actR; rw [if_neg k1, if_neg k2, if_pos k3]]
    simp only [k3, if_true, true_or] at hA ⊢
    have hq : atP r.net a.at_ ∈ r.net.queue := by
      obtain ⟨i, hi, hl⟩ := at_lt hA
      unfold atP
      rw [if_pos hA, hi, Int.toNat_natCast]
      exact mem_getD hl
    have hpb : packetB (atP r.net a.at_) = true := by
      have := n1
      unfold netChk at this
      split at this
      · cases this
      · rename_i hn
        cases hx : packetB (atP r.net a.at_) with
        | true => rfl
        | false => exact absurd (.inr (List.any_eq_true.2 ⟨_, hq, by rw [hx]; rfl⟩)) hn
    have hlen : (delP r.net a.at_).data.length ≤ 1000000 := by
      unfold delP
      split
      · exact Nat.zero_le _
      · exact ho.2.2.2 _ hq
    refine deliver_ok w F d gh r a ho.2.2.1 hA hlen (fun hne => ?_) hp
    have he : delP r.net a.at_ = atP r.net a.at_ := by
      unfold delP at hne ⊢
      split at hne
      · exact absurd rfl hne
      · rename_i hx; rw [if_neg hx]
    rw [he] at hlen ⊢
    exact ⟨(pk_pos hpb).1, (pk_to (n4 _ hq)).2, (pk_to (n4 _ hq)).1, read_hOk hlen⟩
  simp only [if_neg k3] at hA ⊢
  by_cases k4 : a.kind = 4
  · rw [show actR r a = ⟨r.peers, loseN r.net a.at_⟩ by unfold actR; rw [if_neg k1, if_neg k2, if_neg k3, if_pos k4]]
    simp only [k4, if_true, or_true] at hA ⊢
    exact lose_ok w F d gh r a ho.2.2.1 hA
  simp only [if_neg k4, k3, false_or, if_false] at hA ⊢
  by_cases k5 : a.kind = 5
  · rw [show actR r a = ⟨r.peers, repN r.net a.at_⟩ by unfold actR; rw [if_neg k1, if_neg k2, if_neg k3, if_neg k4]]
    rw [if_pos k5] at hA
    exact repeat_ok w F d gh r a ho.2.2.1 hA
  · rw [if_neg k5] at hA; cases hA
theorem act_no (ho : okRoom r) (hc : roomChk r = 0) (ha : hOk a.hand) (hk : 1 ≤ a.kind ∧ a.kind ≤ 5) (hE : doE r a ≠ 0) : callP Try.prog (Bdo w F d gh) (fnOf a.kind) [.ptr 2 0, .agg (dV (actD a))] (errP (doE r a)) (sAt (fnOf a.kind) a r) (fun s' => Wk Try.prog (Bdo w F d gh) s' sBad) ⟨⟩ := by
  have hA : doE r a = actE r a := by unfold doE; rw [if_neg (by omega)]
  rw [hA] at hE ⊢
  unfold actE at hE ⊢
  unfold fnOf
  by_cases k1 : a.kind = 1
  · simp only [if_pos k1] at hE ⊢
    cases hi : inR r a.peer with
    | false =>
      simp only [if_true]
      exact tell_no1 w F d gh r a hi
    | true =>
      simp only [hi, Bool.true_eq_false, if_false] at hE ⊢
      cases hf : formB a.hand with
      | false => simp only [if_true]; exact tell_no2 w F d gh r a hi ha hf
      | true => simp [hf] at hE
  simp only [if_neg k1] at hE ⊢
  by_cases k2 : a.kind = 2
  · simp only [if_pos k2] at hE ⊢
    cases hi : inR r a.peer with
    | false => simp only [true_or, if_true]; exact sync_no1 w F d gh r a hi
    | true =>
      cases hj : inR r a.to_ with
      | false => simp only [true_or, or_true, if_true]; exact sync_no2 w F d gh r a hi hj
      | true =>
        by_cases he : a.peer = a.to_
        · simp only [he, or_true, if_true]
          exact sync_no3 w F d gh r a hi hj he
        · simp [hi, hj, he] at hE
  simp only [if_neg k2] at hE ⊢
  by_cases k3 : a.kind = 3
  · simp only [k3, if_true, true_or] at hE ⊢
    exact deliver_no w F d gh r a ho.2.2.1 hE
  simp only [if_neg k3] at hE ⊢
  by_cases k4 : a.kind = 4
  · simp only [k4, if_true, or_true] at hE ⊢
    exact lose_no w F d gh r a ho.2.2.1 hE
  simp only [if_neg k4, k3, false_or, if_false] at hE ⊢
  have k5 : a.kind = 5 := by omega
  simp only [k5, if_true] at hE ⊢
  exact repeat_no w F d gh r a ho.2.2.1 hE
end
end Go.Proofs.Ythidfoohhhkobaa


namespace Go.Proofs.Ythidfoohhhkobaa
set_option linter.unusedSimpArgs false
set_option linter.unusedVariables false
open Go.RowKit
instance : Inhabited ActP := ⟨⟨0, 0, 0, 0, default⟩⟩
theorem ac_ln (a : ActP) : (actD a).length = 46 := actD_ln a
theorem ac_sz (a : ActP) : (dV (actD a)).length = 46 := by rw [dV_len, ac_ln]
theorem ac_take (a : ActP) : (dV (actD a)).take 46 = dV (actD a) := by rw [List.take_of_length_le]; rw [ac_sz]; exact Nat.le_refl _
theorem ac_takeD (a : ActP) : (actD a).take 46 = actD a := by rw [List.take_of_length_le]; rw [ac_ln]; exact Nat.le_refl _
theorem ac_h0 (a : ActP) : (dV (actD a)).head? = some (vI a.kind) := rfl
theorem ac_h1 (a : ActP) : ((dV (actD a)).drop 1).head? = some (vI a.peer) := rfl
theorem ac_h2 (a : ActP) : ((dV (actD a)).drop 2).head? = some (vI a.to_) := rfl
theorem ac_h3 (a : ActP) : ((dV (actD a)).drop 3).head? = some (vI a.at_) := rfl
theorem ac_d4 (a : ActP) : (dV (actD a)).drop 4 = dV (handD a.hand) := rfl
theorem ac_p0 (a : ActP) : (dV ((actD a).drop 1)).head? = some (vI a.peer) := rfl
theorem ac_p2 (a : ActP) : (dV ((actD a).drop 2)).head? = some (vI a.to_) := rfl
theorem ac_p3 (a : ActP) : (dV ((actD a).drop 3)).head? = some (vI a.at_) := rfl
theorem ac_p4 (a : ActP) : (actD a).drop 4 = handD a.hand := rfl
theorem ac_dr (a : ActP) : (dV (actD a)).drop 46 = [] := List.drop_eq_nil_of_le (by rw [ac_sz]; exact Nat.le_refl _)
theorem ac_s0 (a : ActP) (x : Int) : splice (dV (actD a)) 0 [vI x] = dV (actD { a with kind := x }) := rfl
theorem ac_s1 (a : ActP) (x : Int) : splice (dV (actD a)) 1 [vI x] = dV (actD { a with peer := x }) := rfl
theorem ac_s2 (a : ActP) (x : Int) : splice (dV (actD a)) 2 [vI x] = dV (actD { a with to_ := x }) := rfl
theorem ac_s3 (a : ActP) (x : Int) : splice (dV (actD a)) 3 [vI x] = dV (actD { a with at_ := x }) := rfl
theorem ac_s4 (a : ActP) (h : Hd) : splice (dV (actD a)) 4 (dV (handD h)) = dV (actD { a with hand := h }) := by
  unfold splice
  rw [hd_sz, show (4 : Nat) + 42 = 46 from rfl, ac_dr, List.append_nil]
  rfl
def zActV : Value := .agg ((List.replicate 11 (Value.int .i64 0) ++ List.replicate 32 (Value.int .u8 0) ++ List.replicate 3 (Value.int .i64 0)).toArray)
theorem ty_A : ty T 52 = some ⟨.struct [(0, 1), (1, 1), (2, 1), (3, 1), (4, 42)], 46, zActV, 144⟩ := by kernel_rfl
theorem zA_one : allOne zActV = true := by kernel_rfl
theorem zA_cells : zcells zActV = dV (actD default) := by kernel_rfl
theorem zA_map : List.map (fun c => V.d (D.c c)) zActV.cells.toList = dV (actD default) := by kernel_rfl
theorem zA_D : zD zActV = actD default := by kernel_rfl
set_option linter.defProp false in
def actS := And.intro @ac_ln (And.intro @ac_sz (And.intro @ac_take (And.intro @ac_takeD (And.intro @ac_h0 (And.intro @ac_h1 (And.intro @ac_h2 (And.intro @ac_h3 (And.intro @ac_d4 (And.intro @ac_p0 (And.intro @ac_p2 (And.intro @ac_p3 (And.intro @ac_p4 @ac_dr))))))))))))
end Go.Proofs.Ythidfoohhhkobaa


namespace Go.Proofs.Ythidfoohhhkobaa
set_option linter.unusedVariables false
set_option linter.unusedSimpArgs false
open Go.RowKit
section
variable {P : Program} {B : Base} {T : Tab} {Q : AQ}
theorem gam_ren (ρ : Ren) {s s1 : St} {E : Env} {a : Act} (hi : injB ρ = true) (hn : (ρ.all fun p => decide (p.1 < s1.nx)) = true) (hT : wkT ρ s.tm s1.tm) (hB : wkB ρ s.st s1.st) (hG : Gam P B s E a) : Gam P B s1 (ren ρ E) a := by
  refine ⟨⟨hG.1.os, hG.1.tape, hG.1.output, hG.1.size, hG.1.old, hG.1.F0, hG.1.Fc, hG.1.Fm, fun n x hx => ?_, ?_, fun n hnx => ?_, hG.1.dp⟩, fun t => ?_, hG.2.defers, hG.2.size⟩
  · have := wkB_get hB hx
    unfold wkB1 at this
    split at this <;> try exact this.elim
    · rename_i m hm
      split at this <;> try exact this.elim
      rename_i b' hb'
      exact subB_ok hm this (hG.1.st m b' hb')
    · rename_i hm
      split at this <;> try exact this.elim
      subst this
      exact ⟨.slice none 0 0, [], by simp [ren, hm], World.ownsRow_nil _ _ _ _, fun b hb' => by simp [hb] at hb'⟩
  · intro n m x y b v u hnm hx hy hv hu hbv hbu
    have h1 := wkB_get hB hx
    have h2 := wkB_get hB hy
    cases e1 : lkN ρ n with
    | none => rw [e1] at h1; exact h1.elim
    | some k1 =>
    cases e2 : lkN ρ m with
    | none => rw [e2] at h2; exact h2.elim
    | some k2 =>
    cases k1 with
    | none => simp [ren, e1] at hv; subst hv; simp [hb] at hbv
    | some k1 =>
    cases k2 with
    | none => simp [ren, e2] at hu; subst hu; simp [hb] at hbu
    | some k2 =>
    rw [e1] at h1
    rw [e2] at h2
    simp only [wkB1] at h1 h2
    split at h1 <;> try exact h1.elim
    split at h2 <;> try exact h2.elim
    rename_i b1 hb1 _ b2 hb2
    have hk : k1 ≠ k2 := fun e => by subst e; exact hnm (injB_ok hi e1 e2)
    have hv' : E.η k1 = some v := by simpa [ren, e1] using hv
    have hu' : E.η k2 = some u := by simpa [ren, e2] using hu
    exact hG.1.dist k1 k2 b1 b2 b v u hk hb1 hb2 hv' hu' hbv hbu
  · have hnx' : s1.nx ≤ n := hnx
    cases e : lkN ρ n with
    | none => simp [ren, e]
    | some k =>
      have := List.all_eq_true.1 hn _ (lkN_mem e)
      simp at this
      omega
  · rcases wkT_get t hT with h | h
    · rw [h]; simp only [RV]
    · exact subV_ok ρ E _ _ _ h (hG.2.tm t)

theorem callI_own {f : FuncId} {vs : List V} {xs : List A} {el sz : Nat} {d0 : List D} {es : List (List D)} {d : Option Tmp} {s : St} {K : St → Prop} (hS : SpecO P f xs el sz d0 es) (ha : toAs vs = some xs)
    (hname : (P.funcs[f]?).any (fun fn => fn.name != "runtime.NumGoroutine" && fn.body.isSome) = true) (hd : (match d with | some t => decide (t < B.N) | none => true) = true) (hK : K ⟨put d (.mo s.nx) s.tm, (s.nx, .row el sz (dV d0) (es.map dV)) :: s.st, s.nx + 1⟩) : callI P B f vs d s K ⟨⟩ := by
  have hd : ∀ t, d = some t → t < B.N := fun t e => by rw [e] at hd; simpa using hd
  refine ⟨hname, fun E a us hG hv => (hS E.F E.w us hG.1.lt (toAs_ok ha hv)).mono ?_⟩
  rintro e w' ⟨v, xs, rfl, hb1, ho, hr, h1, hl, hmax, hnew⟩
  have hs : HStep E (E.name s.nx v E.F w') s.nx := hstep_name hb1 FtNew.same
  have hext := hs.ext hG.1.lt (hG.1.fresh _ (Nat.le_refl _))
  have hσn : lkB s.st s.nx = none := hG.1.none_of_fresh (Nat.le_refl _)
  have hη : (E.name s.nx v E.F w').η s.nx = some v := by simp [Env.name]
  obtain ⟨a0, c0, hv0, _⟩ := own_form ho
  have hx : NewB P B E (E.name s.nx v E.F w') s.nx (some (.row el sz (dV d0) (es.map dV))) := by
    refine ⟨v, hη, hnew, v, xs, hη, by rw [List.length_map]; exact ho, ?_, fun x hx => ?_, h1, by rw [List.length_map]; exact hmax, fun b hb' => ?_⟩
    · rw [dV_flat]; exact RVL.of_data (E := E.name s.nx v E.F w') hr
    · obtain ⟨y, hy, rfl⟩ := List.mem_map.1 hx
      simpa [dV] using hl y hy
    · have hge := hnew b hb'
      refine ⟨.inl (Nat.le_trans hG.1.size hge), ?_, fun hm => ?_, fun o ho' => ?_⟩
      · exact (ho.lt b ((ownBlock_hb hv0).trans hb')).2
      · have := (hG.1.Fm b hm).2; omega
      · have := (hG.1.Fc b o ho').2; omega
  refine ⟨v, E.name s.nx v E.F w', _, rfl, rfl, ⟨hG.1.head (σ' := lkB ((s.nx, .row el sz (dV d0) (es.map dV)) :: s.st)) (fr' := fun n => s.nx + 1 ≤ n) hs hx (Nat.le_refl _) (fun n => rfl) hσn (fun n hn' => ⟨by omega, fun _ => by omega⟩), (hG.2.ext hext rfl).put ?_ hd⟩, hK⟩
  simp only [RV]
  exact ⟨hη, a0, _, c0, hv0⟩
theorem callI_wkS (ρ : Ren) {f : FuncId} {vs vs' : List V} {d : Option Tmp} {s s1 : St} {K : St → Prop} (hi : injB ρ = true) (hn : (ρ.all fun p => decide (p.1 < s1.nx)) = true) (hT : wkT ρ s.tm s1.tm) (hB : wkB ρ s.st s1.st) (hv : subVs ρ vs vs') (h : callI P B f vs' d s1 K ⟨⟩) : callI P B f vs d s K ⟨⟩ :=
  ⟨h.1, fun E a us hG hu => h.2 (ren ρ E) a us (gam_ren ρ hi hn hT hB hG) (subVs_ok ρ E _ _ _ hv hu)⟩
theorem callP_wkS (ρ : Ren) {f : FuncId} {vs vs' : List V} {ch : List PanicEntry} {s s1 : St} {K : St → Prop} (hi : injB ρ = true) (hn : (ρ.all fun p => decide (p.1 < s1.nx)) = true) (hT : wkT ρ s.tm s1.tm) (hB : wkB ρ s.st s1.st) (hv : subVs ρ vs vs') (h : callP P B f vs' ch s1 K ⟨⟩) : callP P B f vs ch s K ⟨⟩ :=
  ⟨h.1, fun E a us hG hu => h.2 (ren ρ E) a us (gam_ren ρ hi hn hT hB hG) (subVs_ok ρ E _ _ _ hv hu)⟩
theorem awd_condM {s : St} {c : Operand} {x y : Code} (hco : constOk B.N c = true) (h : match ev (lkT s.tm) c with | .d (.c (.bool b)) => Two b (AWD P B x Q ⟨⟩ s) (AWD P B y Q ⟨⟩ s) | _ => False) : AWD P B (.cond c x y) Q ⟨⟩ s := by
  split at h <;> try exact h.elim
  rename_i b hc
  exact awd_cond hc hco h.1 h.2
end
end Go.Proofs.Ythidfoohhhkobaa

