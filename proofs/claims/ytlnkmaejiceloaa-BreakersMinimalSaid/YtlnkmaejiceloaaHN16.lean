import Derived.Test.YtlnkmaejiceloaaHN15
import Derived.Test.YtlnkmaejiceloaaHN9
import Derived.Test.YtlnkmaejiceloaaHN1
namespace Go.Proofs.Ytlnkmaejiceloaa
set_option linter.unusedVariables false
set_option linter.unusedSimpArgs false
open Go.RowKit
section
variable {P : Program} {B : Base} {T : Tab}
/-- what the append leaves: in the row's room (true), or a row of its own -/
def apSt (n : Nat) (st : List (Nat × Blk)) : Bool → List (Nat × Blk)
  | true => delB n st
  | false => st
def apLK (n m : Nat) : Bool → Value → Value → Prop
  | true, v, v' => InRoom n m v v'
  | false, _, _ => True
/-- the append, evaluated: x is the row named n -/
def apW (T : Tab) (o : Option Oper) (n : Nat) (tm : List (Nat × V)) (st : List (Nat × Blk)) (K : Nat → Nat → Nat → List V → List (List V) → List (List D) → Prop) : Prop := match o with
  | some o => match o.op, o.dst with
    | .call ⟨.builtin .append, asA, ts⟩, some dW => match ts.toList, asA.toList.map (ev (lkT tm)) with
      | [t, t'], [.mo m, y] => (t = t' ∧ m = n) ∧ match ty T t with
        | some ⟨.slice el, _, _, _⟩ => match ty T el, lkB st n with
          | some i, some (.row e sz d0 es) => ((0 < i.sz ∧ i.z.cells.size = i.sz) ∧ e = el ∧ sz = i.sz) ∧ apS i.sz (fun fs => (es.length + fs.length) * i.by_ ≤ 140737488355328 ∧ es.length + fs.length ≤ 140737488351232 ∧ K dW el i.sz d0 es fs) y
          | _, _ => False
        | _ => False
      | _, _ => False
    | _, _ => False
  | none => False
theorem apW_ok (hT : TabOk P T) {l : List Oper} {iw n nx tA : Nat} {tm tm0 : List (Nat × V)} {st : List (Nat × Blk)} {K : Nat → Nat → Nat → List V → List (List V) → List (List D) → Prop} (hN : (l.all (opOk B.N)) = true) (hst : ∀ m, nx ≤ m → lkB st m = none) (htA : lkT tm0 tA = .mo n) (h : apW T l[iw]? n tm st K) :
    ∃ dW el sz d0 es fs, K dW el sz d0 es fs ∧ lkB st n = some (.row el sz d0 es) ∧ n < nx ∧ (∃ o, l[iw]? = some o ∧ o.dst = some dW) ∧
      ∀ ow, l[iw]? = some ow → ∀ (tm' : Nat → V) (σ : Nat → Option Blk) (fr : Nat → Prop) (E : Env) (a : Act), GamS P B σ fr E → GamT B tm' E a → fr (nx + iw) → (∀ n, n < nx → σ n = lkB st n) → tm' tA = lkT tm0 tA → (∀ t ∈ ow.looksAt l.toArray, tm' t = lkT tm t) →
        Upon P (fun u w' => ∃ c E', E'.w = w' ∧ GamS P B (fun k => if k = nx + iw then some (.row el sz d0 (es ++ fs.map dV)) else if k < nx then lkB (apSt n st c) k else σ k) (fun k => fr k ∧ k ≠ nx + iw) E' ∧ Ext E E' ∧ E'.dp = E.dp ∧ RV E' (.mo (nx + iw)) u ∧ apLK es.length fs.length c (vOf B a tA) u) ((execOp a.eval ow).run P E.w) := by
  unfold apW at h
  split at h <;> try exact h.elim
  rename_i o hol
  split at h <;> try exact h.elim
  rename_i asA ts dW hop hdst
  split at h <;> try exact h.elim
  rename_i t t' m y hts has
  obtain ⟨⟨rfl, rfl⟩, h⟩ := h
  split at h <;> try exact h.elim
  rename_i el sz0 z0 by0 hi1
  split at h <;> try exact h.elim
  rename_i i e sz d0 es hi2 hlk
  obtain ⟨⟨⟨hpos, hzs⟩, rfl, rfl⟩, h⟩ := h
  obtain ⟨fs, ⟨hby, hmax, hK⟩, hS⟩ := apS_ok h
  have hlt : m < nx := by
    rcases Nat.lt_or_ge m nx with h | h
    · exact h
    · rw [hst m h] at hlk; cases hlk
  refine ⟨dW, e, i.sz, d0, es, fs, hK, hlk, hlt, ⟨o, hol, hdst⟩, fun ow how tm' σ fr E a hS0 hT0 hfr hσ htA' hag => ?_⟩
  rw [hol] at how
  cases how
  have hok := List.all_eq_true.1 hN o (List.mem_of_getElem? hol)
  have hm := opOk_mem hok
  obtain ⟨p, q, h1, h2, h3⟩ := args_two (c := ⟨.builtin .append, asA, ts⟩) has
  have h1 : asA.toList = [p, q] := h1
  have has' : asA = #[p, q] := by rw [← Array.toArray_toList (xs := asA), h1]
  have hts' : ts = #[t, t] := by rw [← Array.toArray_toList (xs := ts), hts]
  have hpo : p ∈ o.op.operands := by rw [hop]; simp [Op.operands, Call.operands, has']
  have hqo : q ∈ o.op.operands := by rw [hop]; simp [Op.operands, Call.operands, has']
  have rx := ev_ok hT0 p (hm p hpo)
  have ry := ev_ok hT0 q (hm q hqo)
  have rA := hT0.tm tA
  rw [ev_congr (ops := l.toArray) hag hpo, h2] at rx
  rw [ev_congr (ops := l.toArray) hag hqo, h3] at ry
  rw [htA', htA] at rA
  simp only [RV] at rx rA
  have hσm : σ m = some (.row e i.sz d0 es) := by rw [hσ m hlt, hlk]
  have hvA : vOf B a tA = a.eval p := by have := rA.1; rw [rx.1] at this; injection this with this; exact this.symm
  rw [hvA]
  obtain ⟨v1, us0, k0, k1, k2, k4, k3, _, k5⟩ := hS0.st m _ hσm
  rw [rx.1] at k0
  cases k0
  have ht := (ty_ok hT hi1).2
  have hinf := (ty_ok hT hi2).1
  simp only [kdOk] at ht
  obtain ⟨j, hj, hz, hsz, hbyt⟩ : ∃ j, P.info? e = some j ∧ j.zero = some i.z ∧ j.size = i.sz ∧ j.bytes = i.by_ := by
    cases hj : P.info? e with
    | none => rw [hj] at hinf; cases hinf
    | some j => rw [hj] at hinf; simp at hinf; exact ⟨j, rfl, hinf.2.1, hinf.1, hinf.2.2⟩
  obtain ⟨a0, c0, hv0, _⟩ := own_form k1
  have hgrow : ∃ v' w' news, (Builtin.append_ #[t, t] o.type #[a.eval p, a.eval q]).run P E.w = .ok v' w' ∧ Grew 0 e i.sz E.w (a.eval p) v' (es.length + fs.length) (us0 ++ news) w' ∧ (InRoom es.length fs.length (a.eval p) v' ∨ ((∀ k, k < E.w.heap.size → w'.heap[k]? = E.w.heap[k]?) ∧ ∀ g, v'.ownBlock = some g → E.w.heap.size ≤ g)) ∧ RDL E.F E.w fs.flatten news ∧ (∀ u ∈ news, u.oneCell' = true) ∧ ∀ x ∈ fs, x.length = i.sz := by
    rcases hS ry with ⟨c1, hu, rfl⟩ | ⟨ad, c1, news, hu, g1, g2, g3, g4, g5⟩
    · refine ⟨a.eval p, E.w, [], by rw [hu]; exact run_append_none E.w 0 t _ e j ht hj _ _ _ k1 c1, by simpa using Grew.refl k1, ?_, by simp [RDL], by simp, by simp⟩
      rcases k1.2 with ⟨e1, e2⟩ | ⟨g, cap, cur, e1, _⟩
      · exact .inr ⟨fun _ _ => rfl, fun g hg => by rw [e1] at hg; cases hg⟩
      · exact .inl ⟨g, cap, e1, by simpa using e1⟩
    · obtain ⟨v', w', r1, r2, r3⟩ := run_append_own4 (P := P) E.w t o.type e j i.z i.sz i.by_ ht hj hz hsz hbyt hzs hpos (a.eval p) es.length us0 k1 ad fs.length c1 news g2 g5 g3 (by unfold maxLen; omega) hby
      exact ⟨v', w', news, by rw [hu]; exact r1, r2, r3, g1, g3, g4⟩
  obtain ⟨v', w', news, r1, r2, r3, r4, r5, r6⟩ := hgrow
  have hrun : (execOp a.eval o).run P E.w = .ok (.value v') w' := by simp [execOp, hop, resolve, has', hts', invoke, builtin, r1]
  rw [hrun]
  simp only [Upon]
  have hnone : σ (nx + iw) = none := hS0.none_of_fresh hfr
  have hne : m ≠ nx + iw := by omega
  rcases r3 with hin | ⟨hold, hnew⟩
  · -- in its room
    have hdp : ∀ b, hb (a.eval p) = some b → E.w.heap[b]? ≠ some (.deferred (some [])) := fun b hb' => by
      rcases k1.2 with ⟨e1, _⟩ | ⟨g, cap, cur, e1, _, e3, _⟩
      · rw [e1] at hb'; cases hb'
      · rw [e1] at hb'; cases hb'; rw [e3]; simp
    obtain ⟨E', hw', hG, hE, hR, hD'⟩ := GamS.growM (d0 := d0) (σ1 := fun k => if k = m then none else σ k) (σ' := fun k => if k = nx + iw then some (.row e i.sz d0 (es ++ fs.map dV)) else if k < nx then lkB (apSt m st true) k else σ k) (fr' := fun k => fr k ∧ k ≠ nx + iw) (nx := nx + iw) (m := fs.length) hS0 hdp hfr (fun k hk => hk) (fun k => by
      by_cases hk : k = nx + iw
      · simp only [if_pos hk]
      · simp only [if_neg hk, apSt, lkB_delB]
        by_cases hkm : k = m
        · have : k < nx := by omega
          simp only [if_pos hkm, if_pos this]
        · simp only [if_neg hkm]
          by_cases hk2 : k < nx
          · rw [if_pos hk2, hσ k hk2]
          · rw [if_neg hk2])
      (fun k y hy => by
        by_cases hkm : k = m
        · rw [if_pos hkm] at hy; cases hy
        · rw [if_neg hkm] at hy
          exact ⟨hy, fun v b hvk hbk hb0 => hS0.dist k m y _ b v _ hkm hy hσm hvk rx.1 hbk hb0⟩)
      k5 r2 (ownBlock_hb hv0) rfl rfl k2 r4 k3 r5 k4 r6 hmax
    exact ⟨true, E', hw', hG, hE, hD', hR, hin⟩
  · -- elsewhere
    have hbel : Below E.w.heap.size E.w w' := ⟨r2.by_.os, r2.by_.tape, r2.by_.output, r2.by_.size, hold⟩
    have hs : HStep E (E.name (nx + iw) v' E.F w') (nx + iw) := hstep_name hbel FtNew.same
    have hext := hs.ext hS0.lt (hS0.fresh _ hfr)
    have hη : (E.name (nx + iw) v' E.F w').η (nx + iw) = some v' := by simp [Env.name]
    obtain ⟨a1, c1, hv1, _⟩ := own_form r2.own
    have hx : NewB P B E (E.name (nx + iw) v' E.F w') (nx + iw) (some (.row e i.sz d0 (es ++ fs.map dV))) := by
      refine ⟨v', hη, fun b hb' => hnew b ((ownBlock_hb hv1).trans hb'), v', us0 ++ news, hη, by rw [List.length_append, List.length_map]; exact r2.own, ?_, fun x hx => ?_, fun u hu => (List.mem_append.1 hu).elim (k3 u) (r5 u), by rw [List.length_append, List.length_map]; exact hmax, fun b hb' => ?_⟩
      · rw [List.flatten_append, dV_flat]
        refine RVL.append (RVL.mono hext _ _ k2) (RVL.of_data ?_)
        exact RDL.mono hext.F hext.k _ _ r4
      · rcases List.mem_append.1 hx with hx | hx
        · exact k4 x hx
        · obtain ⟨y, hy, rfl⟩ := List.mem_map.1 hx
          simpa [dV] using r6 y hy
      · have hge := hnew b ((ownBlock_hb hv1).trans hb')
        refine ⟨.inl (Nat.le_trans hS0.size hge), (r2.own.lt b ((ownBlock_hb hv1).trans hb')).2, fun hm => ?_, fun o ho' => ?_⟩
        · have := (hS0.Fm b hm).2; omega
        · have := (hS0.Fc b o ho').2; omega
    refine ⟨false, E.name (nx + iw) v' E.F w', rfl, hS0.head (σ' := fun k => if k = nx + iw then some (.row e i.sz d0 (es ++ fs.map dV)) else if k < nx then lkB (apSt m st false) k else σ k) (fr' := fun k => fr k ∧ k ≠ nx + iw) hs hx hfr (fun k => ?_) hnone (fun k hk => ⟨hk.1, fun _ => hk.2⟩), hext, rfl, ?_, trivial⟩
    · by_cases hk : k = nx + iw
      · simp only [if_pos hk]
      · simp only [if_neg hk, apSt]
        by_cases hk2 : k < nx
        · rw [if_pos hk2, hσ k hk2]
        · rw [if_neg hk2]
    · simp only [RV]
      exact ⟨hη, a1, _, c1, hv1⟩
/-- behind the call: the row is back -/
def backK (n n' tA dW el sz : Nat) (d0 : List V) (es fs : List (List V)) (K : St → Prop) : Bool → St → Prop
  | true, s => (lkT s.tm tA = .mo n ∧ lkT s.tm dW = .mo n' ∧ lkB s.st n' = some (.row el sz d0 (es ++ fs))) ∧ K ⟨s.tm, (n, .row el sz d0 es) :: delB n' s.st, s.nx⟩
  | false, s => K ⟨s.tm, delB n' s.st, s.nx⟩
/-- the tail: the call, then the rest -/
def tailW (P : Program) (B : Base) (T : Tab) (ops : Array Oper) (tA dW : Nat) : List Oper → St → (Bool → (St → Prop) → St → Prop) → (St → Prop) → Bool → Prop
  | o :: rest, s, back, K, c => match o.guard, o.op, o.dst with
    | none, .call ⟨.value (.tmp t), asA, _⟩, some d => (d ≠ tA ∧ d ≠ dW) ∧ slotK P B (lkT s.tm t) (asA.toList.map (ev (lkT s.tm))) (some d) s (back c (fun s' => rwp P B T ops rest s' K))
    | _, _, _ => False
  | [], _, _, _, _ => False
theorem wpIn_put {r : Option Nat} {o : Oper} {a : Act} {w : World} {N : Act → World → Prop} {Q : Exit → Act → World → Prop} (h : o.wpIn (fen r) 0 P a w (fun a' w' => (∃ u, a'.tmps = (a.put o.dst u).tmps) → N a' w') Q) : o.wpIn (fen r) 0 P a w N Q := by
  unfold Oper.wpIn at *
  refine ⟨h.1, ?_⟩
  have hh := h.2
  generalize (o.semAt (fen r).round a.eval).run P w = x at *
  cases x with
  | ok x w' =>
    cases x <;> simp only [Oper.uponIn] at hh ⊢ <;>
      first
        | exact hh ⟨_, rfl⟩
        | exact hh ⟨undef, by cases o.dst <;> rfl⟩
        | exact ⟨hh.1, CallsIn.mono hh.2 (fun e w'' he => by cases e <;> first | exact he ⟨_, rfl⟩ | exact he)⟩
        | exact ⟨hh.1, RowsIn.mono hh.2 (fun _ _ he => he ⟨_, rfl⟩)⟩
        | exact ⟨hh.1, RoundIn.mono hh.2 (fun e w'' he => by cases e <;> first | exact he ⟨_, rfl⟩ | exact he)⟩
  | halt x w' => cases x <;> simp only [Oper.uponIn] at hh ⊢ <;> exact hh
theorem tailW_ok (hT : TabOk P T) {ops : Array Oper} (hops : ∀ o ∈ ops.toList, opOk B.N o = true) {l : List Oper} (hl : (l.all (opOk B.N)) = true) {tA dW : Nat} {s : St} {n n' el sz : Nat} {d0 : List V} {es fs : List (List V)} {K : St → Prop} {c : Bool} (hn : n ≠ n')
    (h : tailW P B T ops tA dW l s (fun c K => backK n n' tA dW el sz d0 es fs K c) K c) {Q : Exit → Act → World → Prop} (hQ : ∀ s', K s' → ∀ E a, Gam P B s' E a → Q .normal a E.w) (E : Env) (a : Act) (hG : Gam P B s E a) (hL : apLK es.length fs.length c (vOf B a tA) (vOf B a dW)) : wpListIn (fen B.r) 0 P ops Q l a E.w := by
  cases l with
  | nil => exact h.elim
  | cons o rest =>
  simp only [tailW] at h
  split at h <;> try exact h.elim
  rename_i t asA ts d hg hop hdst
  obtain ⟨⟨hd1, hd2⟩, h⟩ := h
  simp only [List.all_cons, Bool.and_eq_true] at hl
  have hm := opOk_mem hl.1
  have hev : ∀ E a, Gam P B s E a → ∀ y ∈ o.op.operands, RV E (ev (lkT s.tm) y) (a.eval y) := fun E a hG y hy => ev_ok hG.2 y (hm y hy)
  have hdN : d < B.N := by
    have := hl.1
    simp only [opOk, Bool.and_eq_true, hdst, decide_eq_true_eq] at this
    exact this.2
  have hw : Region.wanted o (yielded ops a.tmps) = true := by simp [Region.wanted, hg]
  -- the call leaves the values of tA and dW as they are
  have hrest : ∀ s', backK n n' tA dW el sz d0 es fs (fun s' => rwp P B T ops rest s' K) c s' → ∀ E' a', Gam P B s' E' a' → (∃ u, a'.tmps = (a.put (some d) u).tmps) → wpListIn (fen B.r) 0 P ops Q rest a' E'.w := fun s' hb E' a' hG' ⟨u, hu⟩ => by
    have hput : ∀ t, t ≠ d → vOf B a' t = vOf B a t := fun t ht => by
      have e1 : vOf B a' t = vOf B (a.put (some d) u) t := by unfold vOf; rw [hu]
      rw [e1, vOf_put hG.2.size (fun t e => by cases e; exact hdN), if_neg (fun e => ht (by injection e with e; exact e.symm))]
    cases c with
    | true =>
      obtain ⟨⟨b1, b2, b4⟩, hk⟩ := hb
      refine rwp_list hT hops rest _ _ hl.2 hk hQ E' _ (gam_back b4 hn b1 b2 ?_ hG')
      rw [hput tA (Ne.symm hd1), hput dW (Ne.symm hd2)]
      exact hL
    | false =>
      exact rwp_list hT hops rest _ _ hl.2 hb hQ E' _ (gam_less (s := s') (s1 := ⟨s'.tm, delB n' s'.st, s'.nx⟩) (fun t => .inl rfl) (fun k x hx => delB_get (m := n') hx) (Nat.le_refl _) hG')
  unfold wpListIn
  rw [if_pos hw]
  refine wpIn_put ?_
  refine slot_ok (P := P) (B := B) (o := o) (s := s) (K := fun s' => backK n n' tA dW el sz d0 es fs (fun s' => rwp P B T ops rest s' K) c s') (Q := Q) hop (fun E a hG => hev E a hG (.tmp t) (by simp [hop, Op.operands, Call.operands])) (fun E a hG => RVL.of_forall _ (fun x hx => hev E a hG x (by simp only [hop, Op.operands, Call.operands]; simp [Array.mem_toList_iff.1 hx]))) (by rw [hdst]; exact h) (fun s' E' a' hK hG' hu => hrest s' hK E' a' hG' (by rw [hdst] at hu; exact hu)) E a hG
/-- such a region: the append has index iw, the row's name is n, it lies in slot tA -/
theorem aw_drawnW (iw tA dW n : Nat) (hd tl : List Nat) {id : Nat} {ops : Array Oper} {s : St} {Q : AQ} (hT : TabOk P T) (hm : P.follows .mixedOrders = true) (hl : (ops.toList.all (opOk B.N)) = true) (hok : drawOkW ops.toList (iw :: hd) tl iw tA dW = true)
    (hh : (iw :: hd).filter (fun i => i != iw) = hd) (htA : lkT s.tm tA = .mo n)
    (h : hwp P T ops (delB n s.st) s.nx (pickOps ops.toList hd) s.tm [] (fin2 (fun tm nb => apW T ops.toList[iw]? n tm s.st (fun dW' el sz d0 es fs => dW' = dW ∧ ∀ c, tailW P B T ops tA dW ((pickOps ops.toList tl).map (·.2)) ⟨(dW, .mo (s.nx + iw)) :: tm, (s.nx + iw, .row el sz d0 (es ++ fs.map dV)) :: (nb ++ apSt n s.st c), s.nx + ops.toList.length⟩ (fun c K => backK n (s.nx + iw) tA dW el sz d0 es (fs.map dV) K c) (Q .normal) c)) ⟨⟩)) : AW P B (.region id ops true) Q ⟨⟩ s := fun E a hG => by
  obtain ⟨l, rfl⟩ : ∃ l : List Oper, ops = l.toArray := ⟨ops.toList, by simp⟩
  simp only [List.toList_toArray] at hl hok hh h
  have hops0 : ∀ o ∈ l.toArray.toList, opOk B.N o = true := fun o ho => List.all_eq_true.1 hl o (by simpa using ho)
  have hc : ((pickOps l hd).all fun p => p.2.op.operands.toList.all (constOk B.N)) = true := List.all_eq_true.2 fun p hp => by
    have := List.all_eq_true.1 hl p.2 (List.mem_of_getElem? (pickOps_mem.1 hp).2)
    simp only [opOk, Bool.and_eq_true] at this
    exact this.1
  obtain ⟨tmF, nbF, hK, hrun⟩ := hwp_ok (B := B) hT hops0 _ _ _ hc h
  have hG' := gam_drew hG
  have hst0 : ∀ n, s.nx ≤ n → lkB s.st n = none := fun n hn => hG.1.none_of_fresh hn
  unfold fin2 at hK
  obtain ⟨dW', el, sz, d0, es, fs, ⟨rfl, hKt⟩, hlk, hlt, ⟨o, ho, hod⟩, hwr⟩ := apW_ok (B := B) (tm0 := s.tm) (tA := tA) hT hl hst0 htA hK
  refine wpIn_region_any hm ?_
  have htail : ((pickOps l tl).map (·.2)).all (opOk B.N) = true := List.all_eq_true.2 fun o ho => by
    obtain ⟨p, hp, rfl⟩ := List.mem_map.1 ho
    exact List.all_eq_true.1 hl p.2 (List.mem_of_getElem? (pickOps_mem.1 hp).2)
  have hlen : (iw :: hd).length + tl.length = l.length := by
    simp only [drawOkW, Bool.and_eq_true, decide_eq_true_eq] at hok
    exact hok.1.1.1.1.2
  rw [← hh] at hrun
  have := wpAny_headsW (Q := AQQ P B Q) (ι := Bool) (LK := fun c v u => apLK es.length (fs.map dV).length c v u) (st1 := apSt n s.st) (xW := fun _ => .row el sz d0 (es ++ fs.map dV)) (vW := .mo (s.nx + iw)) hok hrun hl hst0
    (fun c m hm => by
      cases c with
      | true => rw [apSt, lkB_delB]; split; rfl; exact hst0 m hm
      | false => exact hst0 m hm)
    (fun m b hb => delB_get hb)
    (fun c m b hb => by
      cases c with
      | true => exact hb
      | false => exact delB_get hb)
    (by simpa only [List.length_map] using hwr)
    (fun c E a hG hL => tailW_ok hT hops0 htail (by omega) (hKt c) (fun s' hs E a hG => ⟨E, s', rfl, hG, hs⟩) E a hG hL) (iw :: hd).length none (Array.replicate l.toArray.size false) ⟨E.η, E.F, { E.w with drawn := E.w.drawn + 1 }, E.dp⟩ a
    ⟨by simp, fun j oj _ hl => (by rw [getD_replicate_false] at hl; cases hl)⟩ (fun t _ => getD_replicate_false _ _) (by
      rw [List.countP_eq_length]; intro i _; rw [getD_replicate_false]; rfl) (by rw [getD_replicate_false]; rfl) (fun c hc => by cases hc)
    (hG'.1.congr (fun m => by
      rw [getD_replicate_false]
      by_cases hmw : m = s.nx + iw
      · rw [if_pos hmw, hst0 m (by omega)]; rfl
      · rw [if_neg hmw]
        by_cases hn : s.nx ≤ m
        · rw [if_pos hn, if_neg (by simp), hst0 m hn]
        · rw [if_neg hn]; rfl) (fun n hn => hn.1))
    ⟨fun t => by
      have : ((pickOps l ((iw :: hd).filter (fun i => i != iw))).any fun p => p.2.dst == some t && (Array.replicate l.toArray.size false).getD p.1 false) = false := by
        rw [List.any_eq_false]; intro p _; rw [getD_replicate_false]; simp
      rw [this, if_neg (fun h => by cases h.1), if_neg (by simp)]
      exact hG'.2.tm t, hG'.2.defers, hG'.2.size⟩
  rw [hlen] at this
  simpa using this
end
end Go.Proofs.Ytlnkmaejiceloaa


namespace Go.Proofs.Ytlnkmaejiceloaa
open Go.RowKit Go.Lib
set_option maxRecDepth 100000
set_option maxHeartbeats 4000000
set_option linter.unusedVariables false
set_option linter.unusedSimpArgs false
def withinB (a b : List Int) : Bool := a.all fun x => decide (x ∈ b)
theorem bwithin1_spec (b : List Int) (n : Int) (hl : b.length ≤ 140737488351232) : Spec Try.prog 55 [aI n, .one (.pt [.sl 1 (intD 0) (b.map intD)])] (.r1 (aB (!decide (n ∈ b)))) := by
  refine spec_of T_ok Try.func55 (by dsimp only [Try.f55]) rfl rfl (by simp) fun w F => ?_
  have hC := contains_spec b n hl
  repeat' (first | (with_reducible refine aw_seq ?_) | ((with_reducible refine twoG_intro ?_ ?_) <;> intro hTw <;> first | (exact Bool.noConfusion hTw) | ((try simp only [hTw, avT]); (first | (guard_hyp hTw : true = true; clear hTw) | (guard_hyp hTw : false = false; clear hTw) | (revert hTw; intro _)))) | ((with_reducible refine two_intro ?_ ?_) <;> intro hTw <;> first | (exact Bool.noConfusion hTw) | ((first | (guard_hyp hTw : true = true; clear hTw) | (guard_hyp hTw : false = false; clear hTw) | (revert hTw; intro _)))) | ((with_reducible refine And.intro ?_ ?_); (focus (first | omega | rfl | decide | grind))) | (with_reducible refine aw_block ?_) | (with_reducible refine aw_scope ?_) | ((first | ((with_reducible refine aw_regionA T_ok ?_ ?_); (focus kernel_rfl)) | ((with_reducible refine aw_drawnA T_ok ?_ ?_ ?_ ?_); (focus kernel_rfl); (focus kernel_rfl); (focus (decide +kernel))) | ((with_reducible refine aw_drawnF T_ok ?_ ?_ ?_ ?_); (focus kernel_rfl); (focus kernel_rfl); (focus (decide +kernel))) | ((with_reducible refine callK_intro (hC) (by with_unfolding_all rfl) ?_ ?_); (focus kernel_rfl)) | ((with_reducible refine callI_spec (hC) (by with_unfolding_all rfl) ?_ ?_ ?_); (focus kernel_rfl); (focus kernel_rfl)) | (with_reducible refine aw_label ?_) | ((with_reducible refine aw_rfM ?_ ?_); (focus kernel_rfl)) | (with_reducible refine aw_skip ?_) | (with_reducible refine aw_exit ?_) | ((with_reducible refine aw_condM ?_ ?_); (focus kernel_rfl)) | (with_reducible refine aw_ret ?_)); simp only [↓avP, avQ, if_true, if_false, forall_const, beq_self_eq_true, eq_self, ne_eq, implies_true, reduceIte, Nat.reduceEqDiff, Nat.reduceAdd, Nat.reduceSub, Int.reduceToNat, Nat.reduceLeDiff, Nat.reduceLT, reduceCtorEq, Int.reduceEq, retQ, retL, resV, RetV, RetOk, SubL, intD_B, snocI, ty_3, ty_26, ty_4, ty_25]; try simp (disch := omega) only [av_w, av_t1, av_tp, Int.toNat_natCast]))
  exact Sub.refl _
theorem bwithin_spec (a b : List Int) (ha : a.length ≤ 140737488351232) (hb : b.length ≤ 140737488351232) : Spec Try.prog 32 [aIs a, aIs b] (.r1 (aB (withinB a b))) := by
  refine spec_of T_ok Try.func32 (by dsimp only [Try.f32]) rfl rfl (by simp) fun w F => ?_
  have hw : ∀ asA r, FnM aI (fun n => !decide (n ∈ b)) a asA r → Spec Try.prog 55 (asA ++ [.one (.pt [.sl 1 (intD 0) (b.map intD)])]) r := by
    rintro asA r ⟨n, hm, rfl, rfl⟩
    exact bwithin1_spec b n hb
  have hI := ints_contains a (fun n => !decide (n ∈ b)) ha
  have hs : (a.any fun n => !decide (n ∈ b)) = !withinB a b := by
    unfold withinB
    rw [Bool.eq_iff_iff, List.any_eq_true, Bool.not_eq_true', List.all_eq_false]
    constructor
    · rintro ⟨x, h1, h2⟩; exact ⟨x, h1, by simpa using h2⟩
    · rintro ⟨x, h1, h2⟩; exact ⟨x, h1, by simpa using h2⟩
  rw [hs] at hI
  repeat' (first | (with_reducible refine aw_seq ?_) | ((with_reducible refine twoG_intro ?_ ?_) <;> intro hTw <;> first | (exact Bool.noConfusion hTw) | ((try simp only [hTw, avT]); (first | (guard_hyp hTw : true = true; clear hTw) | (guard_hyp hTw : false = false; clear hTw) | (revert hTw; intro _)))) | ((with_reducible refine two_intro ?_ ?_) <;> intro hTw <;> first | (exact Bool.noConfusion hTw) | ((first | (guard_hyp hTw : true = true; clear hTw) | (guard_hyp hTw : false = false; clear hTw) | (revert hTw; intro _)))) | ((with_reducible refine And.intro ?_ ?_); (focus (first | omega | rfl | decide | grind))) | (with_reducible refine aw_block ?_) | (with_reducible refine aw_scope ?_) | ((first | ((with_reducible refine aw_regionA T_ok ?_ ?_); (focus kernel_rfl)) | ((with_reducible refine aw_drawnA T_ok ?_ ?_ ?_ ?_); (focus kernel_rfl); (focus kernel_rfl); (focus (decide +kernel))) | ((with_reducible refine aw_drawnF T_ok ?_ ?_ ?_ ?_); (focus kernel_rfl); (focus kernel_rfl); (focus (decide +kernel))) | ((with_reducible refine callK_fz (hI) rfl ?_ ?_ ?_); (focus (repeat' (first | (exact FzA.nil) | (exact FzL.nil) | (exact FzLL.nil) | (exact FzLL_dV _) | (exact Fz.d rfl) | (refine FzA.one ?_ ?_) | (refine FzA.agg ?_ ?_) | (refine FzL.cons ?_ ?_) | (refine FzLL.cons ?_ ?_) | (exact hw) | (refine Fz.fn ?_ (by kernel_rfl) (hw)) | (refine Fz.fm ?_ (by kernel_rfl) (hw)) | (refine Fz.fc (by kernel_rfl) (hw)) | (refine Fz.pt rfl ?_) | (refine Fz.mp rfl ?_ ?_ ?_) | (refine Fz.row rfl ?_) | (refine Fz.ag ?_))); done); (focus kernel_rfl)) | ((with_reducible refine callI_fz (hI) rfl ?_ ?_ ?_ ?_); (focus (repeat' (first | (exact FzA.nil) | (exact FzL.nil) | (exact FzLL.nil) | (exact FzLL_dV _) | (exact Fz.d rfl) | (refine FzA.one ?_ ?_) | (refine FzA.agg ?_ ?_) | (refine FzL.cons ?_ ?_) | (refine FzLL.cons ?_ ?_) | (exact hw) | (refine Fz.fn ?_ (by kernel_rfl) (hw)) | (refine Fz.fm ?_ (by kernel_rfl) (hw)) | (refine Fz.fc (by kernel_rfl) (hw)) | (refine Fz.pt rfl ?_) | (refine Fz.mp rfl ?_ ?_ ?_) | (refine Fz.row rfl ?_) | (refine Fz.ag ?_))); done); (focus kernel_rfl); (focus kernel_rfl)) | (with_reducible refine aw_label ?_) | ((with_reducible refine aw_rfM ?_ ?_); (focus kernel_rfl)) | (with_reducible refine aw_skip ?_) | (with_reducible refine aw_exit ?_) | ((with_reducible refine aw_condM ?_ ?_); (focus kernel_rfl)) | (with_reducible refine aw_ret ?_)); simp only [↓avP, avQ, if_true, if_false, forall_const, beq_self_eq_true, eq_self, ne_eq, implies_true, reduceIte, Nat.reduceEqDiff, Nat.reduceAdd, Nat.reduceSub, Int.reduceToNat, Nat.reduceLeDiff, Nat.reduceLT, reduceCtorEq, Int.reduceEq, retQ, retL, resV, RetV, RetOk, SubL, intD_B, snocI, ty_3, ty_26, ty_4, ty_25]; try simp (disch := omega) only [av_w, av_t1, av_tp, Int.toNat_natCast]))
  exact Sub.refl _
theorem bleast1_spec (y x : List Int) (hy : y.length ≤ 140737488351232) (hx : x.length ≤ 140737488351232) : Spec Try.prog 31 [aIs y, .one (.pt [.sl 1 (intD 0) (x.map intD)])] (.r1 (aB (withinB y x))) := by
  refine spec_of T_ok Try.func31 (by dsimp only [Try.f31]) rfl rfl (by simp) fun w F => ?_
  have hW := bwithin_spec y x hy hx
  repeat' (first | (with_reducible refine aw_seq ?_) | ((with_reducible refine twoG_intro ?_ ?_) <;> intro hTw <;> first | (exact Bool.noConfusion hTw) | ((try simp only [hTw, avT]); (first | (guard_hyp hTw : true = true; clear hTw) | (guard_hyp hTw : false = false; clear hTw) | (revert hTw; intro _)))) | ((with_reducible refine two_intro ?_ ?_) <;> intro hTw <;> first | (exact Bool.noConfusion hTw) | ((first | (guard_hyp hTw : true = true; clear hTw) | (guard_hyp hTw : false = false; clear hTw) | (revert hTw; intro _)))) | ((with_reducible refine And.intro ?_ ?_); (focus (first | omega | rfl | decide | grind))) | (with_reducible refine aw_block ?_) | (with_reducible refine aw_scope ?_) | ((first | ((with_reducible refine aw_regionA T_ok ?_ ?_); (focus kernel_rfl)) | ((with_reducible refine aw_drawnA T_ok ?_ ?_ ?_ ?_); (focus kernel_rfl); (focus kernel_rfl); (focus (decide +kernel))) | ((with_reducible refine aw_drawnF T_ok ?_ ?_ ?_ ?_); (focus kernel_rfl); (focus kernel_rfl); (focus (decide +kernel))) | ((with_reducible refine callK_intro (hW) (by with_unfolding_all rfl) ?_ ?_); (focus kernel_rfl)) | ((with_reducible refine callI_spec (hW) (by with_unfolding_all rfl) ?_ ?_ ?_); (focus kernel_rfl); (focus kernel_rfl)) | (with_reducible refine aw_label ?_) | ((with_reducible refine aw_rfM ?_ ?_); (focus kernel_rfl)) | (with_reducible refine aw_skip ?_) | (with_reducible refine aw_exit ?_) | ((with_reducible refine aw_condM ?_ ?_); (focus kernel_rfl)) | (with_reducible refine aw_ret ?_)); simp only [↓avP, avQ, if_true, if_false, forall_const, beq_self_eq_true, eq_self, ne_eq, implies_true, reduceIte, Nat.reduceEqDiff, Nat.reduceAdd, Nat.reduceSub, Int.reduceToNat, Nat.reduceLeDiff, Nat.reduceLT, reduceCtorEq, Int.reduceEq, retQ, retL, resV, RetV, RetOk, SubL, intD_B, snocI, ty_3, ty_26, ty_4, ty_25]; try simp (disch := omega) only [av_w, av_t1, av_tp, Int.toNat_natCast]))
  exact Sub.refl _
theorem elemIb : Elem Try.prog 26 3 (.int .i64 0) 1 8 :=
  ⟨Try.underlying26, by kernel_rfl, by rfl, by decide, by intro _ h; cases h⟩
theorem rr_sourceb {F : Ft} {w : World} {sz : Nat} {es : List (List D)} {ad : Addr} (h : RR F w sz (some ad) es 0) : ∃ news, RDL F w es.flatten news ∧ news.length = es.length * sz ∧ (∀ u ∈ news, u.oneCell' = true) ∧ (∀ x ∈ es, x.length = sz) ∧ ∀ j u, news[j]? = some u → w.cell? (ad.add j) = some u := by
  cases es with
  | nil => exact ⟨[], by simp [RDL], by simp, by simp, by simp, by simp⟩
  | cons e es =>
    have h' := h
    simp only [RR] at h'
    obtain ⟨⟨b, o, us, e1, _⟩, _⟩ := h'
    cases e1
    obtain ⟨us, h1, h2, h3, h4, h5⟩ := h.cells
    refine ⟨us, h1, h2, h3, h4, fun j u hj => ?_⟩
    have := (h5 j u hj).2
    rw [Nat.add_zero] at this
    rw [Addr.add_lit]
    exact this
theorem run_eql_nilb {P : Program} {t e : TypeId} (ht : P.underlying t = some (.slice e)) (a : Option Addr) (n c : Nat) (w : World) : (binOp .eql t (.slice a n c) (.slice none 0 0)).run P w = .ok (.bool a.isNone) w := by
  have he : (Op.equal t (.slice a n c) (.slice none 0 0)).run P w = .ok a.isNone w := by
    have gen : ∀ d, (Op.equalIn (d + 1) t (.slice a n c) (.slice none 0 0)).run P w = .ok a.isNone w := fun d => by cases a <;> simp [Op.equalIn, run_underlying ht]
    exact gen _
  simp [binOp, he]
theorem cloneI_spec (es : List (List D)) (dd0 d0 : List D) (hes : es.length ≤ 1099511627776) : SpecO Try.prog 54 [.one (.sl 1 dd0 es)] 3 1 d0 es := by
  intro F w us hF ha
  simp only [RAL] at ha
  obtain ⟨u, r, rfl, hu, rfl⟩ := ha
  simp only [RA, RD] at hu
  obtain ⟨a, cap, rfl, hcap, hmax, hrr⟩ := hu
  cases a with
  | none =>
    have hn := hrr.none_nil
    subst hn
    go_enter Try.func54, Try.ntmps54
    go_wp2_with (simp only [run_eql_nilb Try.underlying26])
    go_ret
    exact ⟨_, [], rfl, Below.refl _ _, World.ownsRow_nil _ _ _ _, by simp [RDL], by simp, by simp, by simp, fun b h => by cases h⟩
  | some ad =>
    obtain ⟨news, n1, n2, n3, n4, n5⟩ := rr_sourceb hrr
    have hone : ∀ W : World, (∀ x u, w.cell? x = some u → W.cell? x = some u) → Source Try.prog 26 26 1 W (.slice (some ad) es.length cap) es.length news := fun W hW =>
      Source.cells ad _ cap news rfl n2 (fun j u hj => hW _ _ (n5 j u hj)) n3
    clear n5
    go_enter Try.func54, Try.ntmps54
    go_wp2_with (first
      | simp only [run_eql_nilb Try.underlying26]
      | (at_builtin; refine wpList_app rfl _ _ rfl elemIb w.heap.size _ 0 [] rfl (NoneAt.own ⟨_, rfl, Nat.le_refl _, Box.new _ _ _⟩) _ _ news rfl (hone _ (fun x u hx => by rw [World.cell?_alloc_lt _ _ _ (World.block_lt_of_cell? _ _ hx)]; exact hx)) (.inl rfl) (by unfold maxLen; omega) (by omega) (by simp) (fun v' w' hg => ?_)))
    go_ret
    rw [Nat.zero_add, List.nil_append] at hg
    have hb1 : Below w.heap.size w (w.alloc (.cells #[] 3)) := (Below.refl _ _).alloc (Nat.le_refl _) _
    have hg' := hg.behind hb1
    have hb := hg'.below (B := w.heap.size) (Nat.le_refl _) (fun g e => by cases e; exact Nat.le_refl _)
    refine ⟨_, news, rfl, hb, ⟨hg.own.1, hg.own.2.imp id (fun ⟨g, c', cur, e1, _, e3⟩ => ⟨g, c', cur, e1, Nat.zero_le _, e3⟩)⟩, RDL.mono (Ft.le_refl _) (.of_blocks (fun b o h => hb.block b (hF.1 b o h)) (fun b h => hb.block b (hF.2 b h))) _ _ n1, n3, n4, hmax, fun b h => ?_⟩
    rcases hg.own.2 with ⟨rfl, _⟩ | ⟨g, c', cur, rfl, h1, _⟩
    · cases h
    · cases h; exact h1
end Go.Proofs.Ytlnkmaejiceloaa


namespace Go.Proofs.Ytlnkmaejiceloaa
set_option linter.unusedVariables false
set_option linter.unusedSimpArgs false
open Go.RowKit
/-- less known of slots, of blocks -/
def lessT (l1 l : List (Nat × V)) : Prop := ∀ t, lkT l1 t = lkT l t ∨ lkT l1 t = .any
def lessB (l1 l : List (Nat × Blk)) : Prop := ∀ n x, lkB l1 n = some x → lkB l n = some x
theorem lessT_refl (l : List (Nat × V)) : lessT l l := fun _ => .inl rfl
theorem lessT_nil (l : List (Nat × V)) : lessT [] l := fun _ => .inr rfl
theorem lessT_cons {l1 l : List (Nat × V)} {k : Nat} {v : V} (h : lkT l k = v) (h1 : lessT l1 l) : lessT ((k, v) :: l1) l := fun t => by
  rw [lkT]
  by_cases e : t = k
  · rw [if_pos e, e]; exact .inl h.symm
  · rw [if_neg e]; exact h1 t
theorem lessB_refl (l : List (Nat × Blk)) : lessB l l := fun _ _ h => h
theorem lessB_nil (l : List (Nat × Blk)) : lessB [] l := fun _ _ h => by cases h
theorem lessB_cons {l1 l : List (Nat × Blk)} {k : Nat} {x : Blk} (h : lkB l k = some x) (h1 : lessB l1 l) : lessB ((k, x) :: l1) l := fun n y hy => by
  rw [lkB] at hy
  by_cases e : n = k
  · rw [if_pos e] at hy; cases hy; rw [e]; exact h
  · rw [if_neg e] at hy; exact h1 n y hy
theorem lessB_skip {l1 l : List (Nat × Blk)} {k : Nat} {x : Blk} (h : lkB l1 k = none) (h1 : lessB l1 l) : lessB l1 ((k, x) :: l) := fun n y hy => by
  rw [lkB]
  by_cases e : n = k
  · subst e; rw [h] at hy; cases hy
  · rw [if_neg e]; exact h1 n y hy
theorem lessB_same {l1 l : List (Nat × Blk)} {k : Nat} {x : Blk} (h1 : lessB l1 l) : lessB ((k, x) :: l1) ((k, x) :: l) := fun n y hy => by
  rw [lkB] at hy ⊢
  by_cases e : n = k
  · rw [if_pos e] at hy ⊢; exact hy
  · rw [if_neg e] at hy ⊢; exact h1 n y hy
theorem lessB_sameE {l1 l : List (Nat × Blk)} {k : Nat} {x y : Blk} (h : x = y) (h1 : lessB l1 l) : lessB ((k, x) :: l1) ((k, y) :: l) := by subst h; exact lessB_same h1
structure LessS (s s1 : St) : Prop where
  t : lessT s1.tm s.tm
  b : lessB s1.st s.st
  n : s.nx ≤ s1.nx
theorem LessS.refl (s : St) : LessS s s := ⟨lessT_refl _, lessB_refl _, Nat.le_refl _⟩
theorem unT_shT (N : Nat) : ∀ l : List (Nat × V), unT N (shT N l) = l
  | [] => rfl
  | (t, v) :: l => by
    simp only [shT, unT]
    rw [if_pos (by omega), unT_shT N l, Nat.add_sub_cancel]
theorem keys_shT (N : Nat) : ∀ l : List (Nat × V), ∀ p ∈ shT N l, N ≤ p.1
  | [], p, h => by cases h
  | (t, v) :: l, p, h => by
    simp only [shT, List.mem_cons] at h
    rcases h with rfl | h
    · show N ≤ t + N; omega
    · exact keys_shT N l p h
theorem setT_off (k : Nat) (v : V) : ∀ l r : List (Nat × V), (∀ p ∈ l, k ≠ p.1) → setT k v (l ++ r) = l ++ setT k v r
  | [], r, _ => rfl
  | (t, u) :: l, r, h => by
    rw [List.cons_append, setT, if_neg (h (t, u) (by simp)), setT_off k v l r (fun p hp => h p (by simp [hp]))]
    rfl
theorem lkT_off (k : Nat) : ∀ l r : List (Nat × V), (∀ p ∈ l, k ≠ p.1) → lkT (l ++ r) k = lkT r k
  | [], r, _ => rfl
  | (t, u) :: l, r, h => by
    rw [List.cons_append, lkT, if_neg (h (t, u) (by simp)), lkT_off k l r (fun p hp => h p (by simp [hp]))]
theorem setT_sha {N k : Nat} (h : k < N) (v : V) (tm r : List (Nat × V)) : setT k v (shT N tm ++ r) = shT N tm ++ setT k v r :=
  setT_off k v _ _ fun p hp e => by have := keys_shT N tm p hp; omega
theorem setT_sh {N k : Nat} (h : k < N) (v : V) (tm : List (Nat × V)) : setT k v (shT N tm) = shT N tm ++ [(k, v)] := by
  have := setT_sha h v tm []
  rwa [List.append_nil] at this
theorem lkT_sha {N k : Nat} (h : k < N) (tm r : List (Nat × V)) : lkT (shT N tm ++ r) k = lkT r k :=
  lkT_off k _ _ fun p hp e => by have := keys_shT N tm p hp; omega
theorem lkT_sh {N k : Nat} (h : k < N) (tm : List (Nat × V)) : lkT (shT N tm) k = .any := by rw [lkT_shT, if_neg (by omega)]
theorem unT_app (N : Nat) : ∀ l r : List (Nat × V), unT N (l ++ r) = unT N l ++ unT N r
  | [], r => rfl
  | (t, v) :: l, r => by
    simp only [List.cons_append, unT, unT_app N l r]
    split <;> simp
/-- the slots behind a frame's are those of tm -/
def tailT (N : Nat) (tm l : List (Nat × V)) : Prop := ∀ t, N ≤ t → lkT l t = lkT (shT N tm) t
theorem tailT_refl (N : Nat) (tm : List (Nat × V)) : tailT N tm (shT N tm) := fun _ _ => rfl
theorem tailT_cons {N k : Nat} {tm l : List (Nat × V)} {v : V} (h : k < N) (h1 : tailT N tm l) : tailT N tm ((k, v) :: l) := fun t ht => by rw [lkT, if_neg (by omega)]; exact h1 t ht
def keysL (N : Nat) : List (Nat × V) → Bool
  | [] => true
  | (k, _) :: l => decide (k < N) && keysL N l
theorem tailT_app {N : Nat} {tm : List (Nat × V)} : ∀ {r : List (Nat × V)}, keysL N r = true → tailT N tm (shT N tm ++ r)
  | r, h => fun t ht => by
    have h0 : ∀ r : List (Nat × V), keysL N r = true → lkT r t = .any := by
      intro r
      induction r with
      | nil => intro _; rfl
      | cons p r ih =>
        obtain ⟨k, v⟩ := p
        intro h
        simp only [keysL, Bool.and_eq_true, decide_eq_true_eq] at h
        rw [lkT, if_neg (by omega)]; exact ih h.2
    generalize shT N tm = l
    induction l with
    | nil => exact h0 r h
    | cons p l ih =>
      obtain ⟨k, v⟩ := p
      simp only [List.cons_append, lkT]
      split
      · rfl
      · exact ih
theorem lessT_tail {N : Nat} {tm l : List (Nat × V)} (h : tailT N tm l) : lessT (shT N tm) l := fun t => by
  by_cases ht : N ≤ t
  · left; exact (h t ht).symm
  · right; rw [lkT_shT, if_neg ht]
theorem nmL (a b : Nat) : (a + b = a) = (b = 0) := propext Nat.add_eq_left
theorem nmR (a b : Nat) : (a = a + b) = (b = 0) := propext Nat.left_eq_add
theorem nmL2 (a b c : Nat) : (a + b + c = a) = (b + c = 0) := propext (by omega)
theorem nmR2 (a b c : Nat) : (a = a + b + c) = (b + c = 0) := propext (by omega)
theorem nmL3 (a b c d : Nat) : (a + b + c + d = a) = (b + c + d = 0) := propext (by omega)
theorem nmR3 (a b c d : Nat) : (a = a + b + c + d) = (b + c + d = 0) := propext (by omega)
theorem nmL4 (a b c d e : Nat) : (a + b + c + d + e = a) = (b + c + d + e = 0) := propext (by omega)
theorem nmR4 (a b c d e : Nat) : (a = a + b + c + d + e) = (b + c + d + e = 0) := propext (by omega)
theorem nmL5 (a b c d e f : Nat) : (a + b + c + d + e + f = a) = (b + c + d + e + f = 0) := propext (by omega)
theorem nmR5 (a b c d e f : Nat) : (a = a + b + c + d + e + f) = (b + c + d + e + f = 0) := propext (by omega)
set_option linter.defProp false in
def nmB := And.intro nmL (And.intro nmR (And.intro nmL2 (And.intro nmR2 (And.intro nmL3 (And.intro nmR3 (And.intro nmL4 (And.intro nmR4 (And.intro nmL5 nmR5))))))))
theorem lessB_setSelf {st : List (Nat × Blk)} {m : Nat} {x : Blk} (h : lkB st m = some x) : lessB (setB m x st) st := fun n y hy => by
  rw [lkB_setB] at hy
  by_cases e : n = m
  · rw [if_pos e] at hy; cases hy; rw [e]; exact h
  · rw [if_neg e] at hy; exact hy
section
variable {P : Program} {B : Base} {T : Tab}
theorem LessS.gam {s s1 : St} (h : LessS s s1) {E : Env} {a : Act} (hG : Gam P B s E a) : Gam P B s1 E a := gam_less h.t h.b h.n hG
theorem wk_less {s s1 : St} (h : LessS s s1) : Wk P B s s1 := fun E _ hG => ⟨E, rfl, h.gam hG⟩
theorem callI_post {f : FuncId} {vs : List V} {d : Option Tmp} {K : St → Prop} {s : St} (h : callI P B f vs d s (fun s' => ∃ s1, LessS s' s1 ∧ K s1) ⟨⟩) : callI P B f vs d s K ⟨⟩ :=
  ⟨h.1, fun E a us hG hv => (h.2 E a us hG hv).mono fun _ _ ⟨u, E', s', h1, h2, h3, s1, h4, h5⟩ => ⟨u, E', s1, h1, h2, h4.gam h3, h5⟩⟩
theorem callI_fresh {f : FuncId} {vs : List V} {d : Option Tmp} {K : St → Prop} {s : St} (hname : (P.funcs[f]?).any (fun fn => fn.name != "runtime.NumGoroutine" && fn.body.isSome) = true) (h : (∀ n, s.nx ≤ n → lkB s.st n = none) → callI P B f vs d s K ⟨⟩) : callI P B f vs d s K ⟨⟩ :=
  ⟨hname, fun E a us hG hv => (h fun _ hn => hG.1.none_of_fresh hn).2 E a us hG hv⟩
theorem aw_fresh {c : Code} {Q : AQ} {s : St} (h : (∀ n, s.nx ≤ n → lkB s.st n = none) → AW P B c Q ⟨⟩ s) : AW P B c Q ⟨⟩ s := fun E a hG => h (fun _ hn => hG.1.none_of_fresh hn) E a hG
theorem aw_lessS {c : Code} {Q : AQ} {s s1 : St} (hl : LessS s s1) (h : AW P B c Q ⟨⟩ s1) : AW P B c Q ⟨⟩ s := aw_wk (wk_less hl) h
/-- a written row is frozen, seen so in one slot -/
theorem aw_frzO (n t0 : Nat) {el sz : Nat} {d0V : List V} (d0 : List D) {esV : List (List V)} (es : List (List D)) {c : Code} {Q : AQ} {s : St} (hn : lkB s.st n = some (.row el sz d0V esV)) (hes : esV = es.map dV) (ht : lkT s.tm t0 = .mo n)
    (h : AW P B c Q ⟨⟩ ⟨setT t0 (.ow n sz d0 es) s.tm, setB n (.tok el sz es.length) s.st, s.nx⟩) : AW P B c Q ⟨⟩ s := by
  refine aw_weak (fun E a hG => ?_) h
  obtain ⟨E', hw, hG'⟩ := gam_frz (d0 := d0) hn hes hG
  refine ⟨E', hw, hG'.1, ⟨fun t => ?_, hG'.2.defers, hG'.2.size⟩⟩
  show RV E' (lkT (setT t0 (.ow n sz d0 es) s.tm) t) _
  have key : ∀ t, lkT s.tm t = .mo n → RV E' (.ow n sz d0 es) (vOf B a t) := fun t h8 => by
    have := hG'.2.tm t
    rcases lkT_frzT n (.ow n sz d0 es) t s.tm with h9 | ⟨_, h9⟩
    · have h0 : ∀ l : List (Nat × V), lkT l t = .mo n → lkT (frzT n (.ow n sz d0 es) l) t = .ow n sz d0 es := by
        intro l
        induction l with
        | nil => intro h; cases h
        | cons p l ih =>
          obtain ⟨u, x⟩ := p
          intro h
          rw [lkT] at h
          simp only [frzT, lkT]
          by_cases htu : t = u
          · rw [if_pos htu] at h ⊢
            subst h
            simp
          · rw [if_neg htu] at h ⊢
            exact ih h
      have h1 := h0 _ h8
      show RV E' _ _
      have h2 : RV E' (lkT (frzT n (.ow n sz d0 es) s.tm) t) (vOf B a t) := this
      rw [h1] at h2; exact h2
    · have h2 : RV E' (lkT (frzT n (.ow n sz d0 es) s.tm) t) (vOf B a t) := this
      rw [h9] at h2; exact h2
  rw [lkT_setT]
  by_cases h0 : t = t0
  · rw [if_pos h0]; subst h0; exact key t ht
  · rw [if_neg h0]
    have h2 : RV E' (lkT (frzT n (.ow n sz d0 es) s.tm) t) (vOf B a t) := hG'.2.tm t
    rcases lkT_frzT n (.ow n sz d0 es) t s.tm with h9 | ⟨h8, _⟩
    · rw [h9] at h2; exact h2
    · have := key t h8
      rw [h8]
      simp only [RV, RD] at this ⊢
      obtain ⟨h3, a1, c1, hv, _⟩ := this
      exact ⟨h3, a1, _, c1, hv⟩
end
end Go.Proofs.Ytlnkmaejiceloaa

