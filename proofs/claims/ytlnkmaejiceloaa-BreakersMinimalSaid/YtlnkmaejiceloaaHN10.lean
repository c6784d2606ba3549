import Derived.Test.YtlnkmaejiceloaaHN2
namespace Go.Proofs.Ytlnkmaejiceloaa
set_option linter.unusedVariables false
set_option linter.unusedSimpArgs false
open Go.RowKit
def lkC : List (Nat × Nat) → Nat → Option Nat
  | [], _ => none
  | (i, j) :: l, k => if k = i then some j else lkC l k
theorem lkC_mem : ∀ {cs : List (Nat × Nat)} {i j : Nat}, lkC cs i = some j → (i, j) ∈ cs
  | [], _, _, h => by cases h
  | (a, b) :: cs, i, j, h => by
    simp only [lkC] at h
    split at h
    · rename_i e; cases h; subst e; simp
    · exact List.mem_cons_of_mem _ (lkC_mem h)
theorem lkC_of_mem : ∀ {cs : List (Nat × Nat)} {i j : Nat}, (cs.map (·.1)).Nodup → (i, j) ∈ cs → lkC cs i = some j
  | [], _, _, _, h => by cases h
  | (a, b) :: cs, i, j, hn, h => by
    simp only [List.map_cons, List.nodup_cons] at hn
    simp only [lkC]
    rcases List.mem_cons.1 h with e | h
    · cases e; rw [if_pos rfl]
    · rw [if_neg (fun e => hn.1 (by rw [← e]; exact List.mem_map.2 ⟨(i, j), h, rfl⟩)), lkC_of_mem hn.2 h]
section
variable {P : Program} {B : Base} {T : Tab} {ops : Array Oper}
/-- one operation of the head, that may take a row made in the region: whatever else has run already -/
def HG (P : Program) (B : Base) (ops : Array Oper) (o : Oper) (tmi : Nat → V) (st0 : Nat → Option Blk) (rq : Option (Nat × Blk)) (nm : Nat) (v : V) (x : Option Blk) : Prop :=
  ∀ (tm : Nat → V) (σ : Nat → Option Blk) (fr : Nat → Prop) (E : Env) (a : Act), GamS P B σ fr E → GamT B tm E a → fr nm → (∀ n b, st0 n = some b → σ n = some b) → (∀ p, rq = some p → σ p.1 = some p.2) → (∀ t ∈ o.looksAt ops, tm t = tmi t) →
    (Region.wanted o (yielded ops a.tmps) = true → Upon P (fun u w' => ∃ E', E'.w = w' ∧ GamS P B (fun n => if n = nm then x else if rq.map (·.1) = some n then none else σ n) (fun n => fr n ∧ (x.isSome = true → n ≠ nm)) E' ∧ Ext E E' ∧ E'.dp = E.dp ∧ RV E' v u) ((execOp a.eval o).run P E.w)) ∧
    (Region.wanted o (yielded ops a.tmps) = false → x = none ∧ rq = none ∧ RV E v undef)
theorem HG.of {o : Oper} {tmi : Nat → V} {st0 : Nat → Option Blk} {nm : Nat} {v : V} {x : Option Blk} (h : HF P B ops o tmi st0 nm v x) : HG P B ops o tmi st0 none nm v x := by
  intro tm σ fr E a hS hT hfr hst _ hag
  obtain ⟨h1, h2⟩ := h tm σ fr E a hS hT hfr hst hag
  exact ⟨fun hw => (h1 hw).mono fun u w' ⟨E', e, hS', hr⟩ => ⟨E', e, hS'.congr (fun n => by simp) (fun n hn => hn), hr⟩, fun hw => ⟨(h2 hw).1, rfl, (h2 hw).2⟩⟩
/-- what an append takes: nothing, or a row made in the region -/
def apH (nb : List (Nat × Blk)) (el : Nat) (i : TyI) (K : List D → List (List D) → Option (Nat × Blk) → Prop) : V → Prop
  | .d (.c (.slice none 0 0)) => K (zD i.z) [] none
  | .ow n sz d0 es => match lkB nb n with
    | some (.tok e sz' len) => e = el ∧ sz = i.sz ∧ sz' = i.sz ∧ len = es.length ∧ K d0 es (some (n, .tok e sz' len))
    | _ => False
  | _ => False
theorem apH_ok {nb : List (Nat × Blk)} {el : Nat} {i : TyI} {K : List D → List (List D) → Option (Nat × Blk) → Prop} {x : V} (h : apH nb el i K x) : ∃ d0 es rq, K d0 es rq ∧ (∀ p, rq = some p → lkB nb p.1 = some p.2) ∧ ∀ {B : Base} {σ : Nat → Option Blk} {fr : Nat → Prop} {E : Env} {v0 : Value}, GamS P B σ fr E → (∀ p, rq = some p → σ p.1 = some p.2) → RV E x v0 →
    ∃ us0, E.w.ownsRow 0 el i.sz v0 es.length us0 ∧ RDL E.F E.w es.flatten us0 ∧ (∀ u ∈ us0, u.oneCell' = true) ∧ (∀ x ∈ es, x.length = i.sz) ∧ (∀ b, hb v0 = some b → okB B E b (fun o => o < es.length * i.sz)) ∧ ∀ k y, (if rq.map (·.1) = some k then none else σ k) = some y → σ k = some y ∧ ∀ v b, E.η k = some v → hb v = some b → hb v0 ≠ some b := by
  unfold apH at h
  split at h <;> try exact h.elim
  · refine ⟨_, _, _, h, (fun p hp => by cases hp), fun hg _ hv => ?_⟩
    simp only [RV, RD] at hv
    subst hv
    exact ⟨[], World.ownsRow_nil _ _ _ _, by simp [RDL], by simp, by simp, fun b hb' => by simp [hb] at hb', fun k y hy => ⟨by simpa using hy, fun v b _ _ => by simp [hb]⟩⟩
  · rename_i n sz d0 es
    split at h <;> try exact h.elim
    rename_i e sz' len hst
    obtain ⟨rfl, rfl, rfl, rfl, h⟩ := h
    refine ⟨_, _, _, h, (fun p hp => by cases hp; exact hst), fun {B σ fr E v0} hg hrq hv => ?_⟩
    have hst' := hrq _ rfl
    simp only at hst'
    simp only [RV] at hv
    obtain ⟨v1, us, h1, h2, h3⟩ := hg.st n _ hst'
    rw [hv.1] at h1
    cases h1
    obtain ⟨g1, g2, g3, _⟩ := own_cells hv.2 h2
    refine ⟨us, h2, g1, g2, g3, h3, fun k y hy => ?_⟩
    by_cases hk : k = n
    · rw [if_pos (by simp [hk])] at hy; cases hy
    · rw [if_neg (by simp; exact fun e => hk e.symm)] at hy
      exact ⟨hy, fun v b hvk hbk hb0 => hg.dist k n y _ b v v0 hk hy hst' hvk hv.1 hbk hb0⟩
/-- append(x, y...) in the head -/
def apKH (T : Tab) (nb : List (Nat × Blk)) (nm : Nat) (K : V → Option Blk → Option (Nat × Blk) → Prop) : List TypeId → List V → Prop
  | [t, t'], [x, y] => t = t' ∧ match ty T t with
    | some ⟨.slice el, _, _, _⟩ => match ty T el with
      | some i => (0 < i.sz ∧ i.z.cells.size = i.sz) ∧ apH nb el i (fun d0 es rq => apS i.sz (fun fs => (es.length + fs.length) * i.by_ ≤ 140737488355328 ∧ es.length + fs.length ≤ 140737488351232 ∧ K (.ow nm i.sz d0 (es ++ fs)) (some (.tok el i.sz (es.length + fs.length))) rq) y) x
      | none => False
    | _ => False
  | _, _ => False
theorem apKH_ok {o : Oper} {tmi : Nat → V} {st0 : Nat → Option Blk} {nb : List (Nat × Blk)} {nm : Nat} (hT : TabOk P T) {c : Call} (ho : o.op = .call c) (hgd : o.guard = none) (hc : c.callee = .builtin .append) (hco : (c.args.toList.all (constOk B.N)) = true) {K : V → Option Blk → Option (Nat × Blk) → Prop} (h : apKH T nb nm K c.argTypes.toList (c.args.toList.map (ev tmi))) :
    ∃ v x rq, K v x rq ∧ (∀ p, rq = some p → lkB nb p.1 = some p.2) ∧ HG P B ops o tmi st0 rq nm v x := by
  generalize hts : c.argTypes.toList = ts at h
  generalize has : c.args.toList.map (ev tmi) = vs at h
  unfold apKH at h
  split at h <;> try exact h.elim
  rename_i t t' x y
  obtain ⟨rfl, h⟩ := h
  have hts' : c.argTypes = #[t, t] := by rw [← Array.toArray_toList (xs := c.argTypes), hts]
  obtain ⟨p, q, h1, h2, h3⟩ := args_two has
  have has' : c.args = #[p, q] := by rw [← Array.toArray_toList (xs := c.args), h1]
  split at h <;> try exact h.elim
  rename_i el sz z bt hi1
  split at h <;> try exact h.elim
  rename_i i hi2
  obtain ⟨⟨hpos, hzs⟩, h⟩ := h
  obtain ⟨d0, es, rq, h, hrqn, hD⟩ := apH_ok (P := P) h
  obtain ⟨fs, ⟨hby, hmax, hK⟩, hS⟩ := apS_ok h
  refine ⟨_, _, rq, hK, hrqn, fun tm σ fr E a hS0 hT0 hfr hst hrq hag => ?_⟩
  have hw : Region.wanted o (yielded ops a.tmps) = true := by simp [Region.wanted, hgd]
  refine ⟨fun _ => ?_, fun h' => by rw [hw] at h'; cases h'⟩
  rw [h1] at hco
  simp only [List.all_cons, List.all_nil, Bool.and_true, Bool.and_eq_true] at hco
  have hpo : p ∈ o.op.operands := by rw [ho]; simp [Op.operands, Call.operands, has']
  have hqo : q ∈ o.op.operands := by rw [ho]; simp [Op.operands, Call.operands, has']
  have rx := ev_ok hT0 p hco.1
  have ry := ev_ok hT0 q hco.2
  rw [ev_congr hag hpo, h2] at rx
  rw [ev_congr hag hqo, h3] at ry
  obtain ⟨us0, k1, k2, k3, k4, k5, k6⟩ := hD hS0 hrq rx
  have ht := (ty_ok hT hi1).2
  have hinf := (ty_ok hT hi2).1
  simp only [kdOk] at ht
  obtain ⟨j, hj, hz, hsz, hbyt⟩ : ∃ j, P.info? el = some j ∧ j.zero = some i.z ∧ j.size = i.sz ∧ j.bytes = i.by_ := by
    cases hj : P.info? el with
    | none => rw [hj] at hinf; cases hinf
    | some j => rw [hj] at hinf; simp at hinf; exact ⟨j, rfl, hinf.2.1, hinf.1, hinf.2.2⟩
  obtain ⟨a0, c0, hv0, _⟩ := own_form k1
  have hgrow : ∃ v' w' news, (Builtin.append_ #[t, t] o.type #[a.eval p, a.eval q]).run P E.w = .ok v' w' ∧ Grew 0 el i.sz E.w (a.eval p) v' (es.length + fs.length) (us0 ++ news) w' ∧ (∀ g, (a.eval p).ownBlock = some g → v'.ownBlock = some g ∨ w'.heap[g]? = E.w.heap[g]?) ∧ RDL E.F E.w fs.flatten news ∧ (∀ u ∈ news, u.oneCell' = true) ∧ ∀ x ∈ fs, x.length = i.sz := by
    rcases hS ry with ⟨c1, hu, rfl⟩ | ⟨ad, c1, news, hu, g1, g2, g3, g4, g5⟩
    · refine ⟨a.eval p, E.w, [], by rw [hu]; exact run_append_none E.w 0 t _ el j ht hj _ _ _ k1 c1, by simpa using Grew.refl k1, fun _ _ => .inr rfl, by simp [RDL], by simp, by simp⟩
    · obtain ⟨v', w', r1, r2, r3⟩ := run_append_own3 (P := P) E.w 0 t o.type el j i.z i.sz i.by_ ht hj hz hsz hbyt hzs hpos (a.eval p) es.length us0 k1 ad fs.length c1 news g2 g5 g3 (by unfold maxLen; omega) hby (Nat.zero_le _)
      exact ⟨v', w', news, by rw [hu]; exact r1, r2, r3, g1, g3, g4⟩
  obtain ⟨v', w', news, r1, r2, r3, r4, r5, r6⟩ := hgrow
  have hσn : (if rq.map (·.1) = some nm then none else σ nm) = none := by
    rw [hS0.none_of_fresh hfr]; split <;> rfl
  have hdp : ∀ b, hb (a.eval p) = some b → E.w.heap[b]? ≠ some (.deferred (some [])) := fun b hb' => by
    rcases k1.2 with ⟨e1, _⟩ | ⟨g, cap, cur, e1, _, e3, _⟩
    · rw [e1] at hb'; cases hb'
    · rw [e1] at hb'; cases hb'; rw [e3]; simp
  obtain ⟨E', hw', hG, hE, hR, hD'⟩ := GamS.grow (d0 := d0) (σ1 := fun k => if rq.map (·.1) = some k then none else σ k) (σ' := fun n => if n = nm then some (.tok el i.sz (es.length + fs.length)) else if rq.map (·.1) = some n then none else σ n) (fr' := fun n => fr n ∧ ((some (Blk.tok el i.sz (es.length + fs.length))).isSome = true → n ≠ nm)) (nx := nm) (m := fs.length) hS0 hdp hfr (fun k hk => ⟨hk.1, hk.2 rfl⟩) (fun k => rfl) k6 hσn k5 r2 r3 (ownBlock_hb hv0) rfl rfl k1.1
    (fun g hg' j u hj => by
      have := k1.cells (g := g) ((ownBlock_hb hv0).trans hg') j u hj
      rwa [Addr.add_any, Nat.zero_add] at this) k2 r4 k3 r5 k4 r6 hmax
  have hrun : (execOp a.eval o).run P E.w = .ok (.value v') w' := by simp [execOp, ho, resolve, hc, has', hts', invoke, builtin, r1]
  rw [hrun]
  simp only [Upon]
  exact ⟨E', hw', hG, hE, hD', hR⟩
def delO : Option (Nat × Blk) → List (Nat × Blk) → List (Nat × Blk)
  | none, l => l
  | some p, l => delB p.1 l
/-- what a row's taking is, by the pairs given -/
def rqOk (cs : List (Nat × Nat)) (nx i : Nat) : Option (Nat × Blk) → Prop
  | none => lkC cs i = none
  | some p => lkC cs i = some (p.1 - nx) ∧ nx ≤ p.1
/-- one operation of the head, evaluated -/
def hopC (P : Program) (T : Tab) (ops : Array Oper) (o : Oper) (tm : List (Nat × V)) (st0 nb : List (Nat × Blk)) (nm : Nat) (K : V → Option Blk → Option (Nat × Blk) → Prop) : Prop :=
  match o.guard with
  | none => match o.op with
    | .call ⟨.builtin .append, asA, ts⟩ => apKH T nb nm K ts.toList (asA.toList.map (ev (lkT tm)))
    | op => hop P T True op (ev (lkT tm)) (lkB st0) nm (fun v x => K v x none)
  | some _ => hopH P T ops o tm st0 nm (fun v x => K v x none)
theorem hopC_ok (hT : TabOk P T) {o : Oper} {tm : List (Nat × V)} {st0 nb : List (Nat × Blk)} {nm : Nat} {K : V → Option Blk → Option (Nat × Blk) → Prop} (hops : ∀ o ∈ ops.toList, opOk B.N o = true) (hc : (o.op.operands.toList.all (constOk B.N)) = true) (h : hopC P T ops o tm st0 nb nm K) :
    ∃ v x rq, K v x rq ∧ (∀ p, rq = some p → lkB nb p.1 = some p.2) ∧ HG P B ops o (lkT tm) (lkB st0) rq nm v x := by
  unfold hopC at h
  split at h
  · rename_i hg
    split at h
    · rename_i asA ts hop
      refine apKH_ok hT hop hg rfl ?_ h
      refine List.all_eq_true.2 fun z hz => List.all_eq_true.1 hc z ?_
      rw [hop]
      simp only [Op.operands, Call.operands]
      simp [Array.mem_toList_iff.1 hz]
    · obtain ⟨v, x, hK, hd⟩ := hop_ok hT h
      exact ⟨v, x, none, hK, (fun p hp => by cases hp), .of (hf_next hc hg (hd trivial))⟩
  · obtain ⟨v, x, hK, hf⟩ := hopH_ok hT hops hc h
    exact ⟨v, x, none, hK, (fun p hp => by cases hp), .of hf⟩
/-- the head -/
def hwpC (P : Program) (T : Tab) (ops : Array Oper) (st0 : List (Nat × Blk)) (nx : Nat) (cs : List (Nat × Nat)) : List (Nat × Oper) → List (Nat × V) → List (Nat × Blk) → (List (Nat × V) → List (Nat × Blk) → Prop) → Prop
  | [], tm, nb, K => K tm nb
  | (i, o) :: l, tm, nb, K => hopC P T ops o tm st0 nb (nx + i) (fun v x rq => rqOk cs nx i rq ∧ hwpC P T ops st0 nx cs l (put o.dst v tm) (addN (nx + i) x (delO rq nb)) K)
/-- its run: nb: the rows that are there, mb: all that were made -/
def HRunC (P : Program) (B : Base) (ops : Array Oper) (st0 : List (Nat × Blk)) (nx : Nat) (cs : List (Nat × Nat)) (tmF : List (Nat × V)) (nbF mbF : List (Nat × Blk)) : List (Nat × Oper) → List (Nat × V) → List (Nat × Blk) → List (Nat × Blk) → Prop
  | [], tm, nb, mb => tmF = tm ∧ nbF = nb ∧ mbF = mb
  | (i, o) :: l, tm, nb, mb => ∃ v x rq, (∀ p, rq = some p → lkB nb p.1 = some p.2) ∧ HG P B ops o (lkT tm) (lkB st0) rq (nx + i) v x ∧ rqOk cs nx i rq ∧ HRunC P B ops st0 nx cs tmF nbF mbF l (put o.dst v tm) (addN (nx + i) x (delO rq nb)) (addN (nx + i) x mb)
theorem hwpC_ok (hT : TabOk P T) {st0 : List (Nat × Blk)} {nx : Nat} {cs : List (Nat × Nat)} {K : List (Nat × V) → List (Nat × Blk) → Prop} (hops : ∀ o ∈ ops.toList, opOk B.N o = true) : ∀ (l : List (Nat × Oper)) (tm : List (Nat × V)) (nb mb : List (Nat × Blk)), (l.all fun p => p.2.op.operands.toList.all (constOk B.N)) = true → hwpC P T ops st0 nx cs l tm nb K → ∃ tmF nbF mbF, K tmF nbF ∧ HRunC P B ops st0 nx cs tmF nbF mbF l tm nb mb
  | [], tm, nb, mb, _, h => ⟨tm, nb, mb, h, rfl, rfl, rfl⟩
  | (i, o) :: l, tm, nb, mb, hc, h => by
    simp only [List.all_cons, Bool.and_eq_true] at hc
    obtain ⟨v, x, rq, ⟨hq, h1⟩, hn, h2⟩ := hopC_ok (B := B) hT hops hc.1 h
    obtain ⟨tmF, nbF, mbF, h3, h4⟩ := hwpC_ok hT hops l _ _ (addN (nx + i) x mb) hc.2 h1
    exact ⟨tmF, nbF, mbF, h3, v, x, rq, hn, h2, hq, h4⟩
theorem lkB_delO {rq : Option (Nat × Blk)} {l : List (Nat × Blk)} (n : Nat) : lkB (delO rq l) n = if rq.map (·.1) = some n then none else lkB l n := by
  cases rq with
  | none => simp [delO]
  | some p =>
    simp only [delO, lkB_delB, Option.map_some, Option.some.injEq]
    by_cases h : n = p.1
    · rw [if_pos h, if_pos h.symm]
    · rw [if_neg h, if_neg (fun e => h e.symm)]
theorem rqOk_map {cs : List (Nat × Nat)} {nx i : Nat} {rq : Option (Nat × Blk)} (h : rqOk cs nx i rq) (n : Nat) : rq.map (·.1) = some n ↔ ∃ j, lkC cs i = some j ∧ n = nx + j := by
  cases rq with
  | none =>
    simp only [rqOk] at h
    simp [h]
  | some p =>
    simp only [rqOk] at h
    simp only [Option.map_some, Option.some.injEq]
    constructor
    · intro e; exact ⟨_, h.1, by omega⟩
    · rintro ⟨j, h1, h2⟩
      rw [h.1] at h1
      injection h1 with h1
      omega
theorem hrunC_facts {st0 : List (Nat × Blk)} {nx : Nat} {cs : List (Nat × Nat)} {tmF : List (Nat × V)} {nbF mbF : List (Nat × Blk)} (hcs : ∀ c ∈ cs, c.2 < c.1) : ∀ (l : List (Nat × Oper)) (tm : List (Nat × V)) (nb mb : List (Nat × Blk)), incr l = true → (∀ n q, lkB nb n = some q → lkB mb n = some q) → HRunC P B ops st0 nx cs tmF nbF mbF l tm nb mb →
    (∀ t, (∀ p ∈ l, p.2.dst ≠ some t) → lkT tmF t = lkT tm t) ∧ (∀ n, (∀ p ∈ l, n ≠ nx + p.1) → lkB mbF n = lkB mb n) ∧
    (∀ n, (∃ p ∈ l, ∃ j, lkC cs p.1 = some j ∧ n = nx + j) → (∀ p ∈ l, ∀ q ∈ l, ∀ j, lkC cs p.1 = some j → nx + j = nx + q.1 → q.1 < p.1) → lkB nbF n = none) ∧
    (∀ n, (∀ p ∈ l, ∀ j, lkC cs p.1 = some j → n ≠ nx + j) → lkB mb n = lkB nb n → lkB nbF n = lkB mbF n) ∧
    ∀ p ∈ l, ∃ tmi v x rq, HG P B ops p.2 tmi (lkB st0) rq (nx + p.1) v x ∧ (∀ d, p.2.dst = some d → lkT tmF d = v) ∧ (lkB mb (nx + p.1) = none → lkB mbF (nx + p.1) = x) ∧
      (∀ t, ∀ q ∈ l, q.1 < p.1 → q.2.dst = some t → tmi t = lkT tmF t) ∧ (∀ t, (∀ q ∈ l, q.1 < p.1 → q.2.dst ≠ some t) → tmi t = lkT tm t) ∧ rqOk cs nx p.1 rq ∧ (∀ z, rq = some z → lkB mbF z.1 = some z.2)
  | [], tm, nb, mb, _, _, h => by
    obtain ⟨rfl, rfl, rfl⟩ := h
    exact ⟨fun _ _ => rfl, fun _ _ => rfl, (fun n h _ => by obtain ⟨p, hp, _⟩ := h; cases hp), (fun n _ h => h.symm), (fun p hp => by cases hp)⟩
  | (i, o) :: l, tm, nb, mb, hi, hsub, h => by
    simp only [incr, Bool.and_eq_true] at hi
    obtain ⟨v, x, rq, hn, h1, hrq, h2⟩ := h
    have hlt : ∀ p ∈ l, i < p.1 := fun p hp => by have := List.all_eq_true.1 hi.1 p hp; simp at this; exact this.1
    have hne : ∀ p ∈ l, ∀ d, o.dst = some d → p.2.dst ≠ some d := fun p hp d hd => by
      have := List.all_eq_true.1 hi.1 p hp
      rw [hd] at this
      simp at this
      exact this.2
    have hsub' : ∀ n q, lkB (addN (nx + i) x (delO rq nb)) n = some q → lkB (addN (nx + i) x mb) n = some q := fun n q hq => by
      rw [lkB_addN] at hq ⊢
      split at hq
      · rename_i hc; rw [if_pos hc]; exact hq
      · rename_i hc
        rw [if_neg hc]
        rw [lkB_delO] at hq
        split at hq
        · cases hq
        · exact hsub n q hq
    obtain ⟨f1, f2, f2a, f2b, f3⟩ := hrunC_facts hcs l _ _ _ hi.2 hsub' h2
    have hkeep : ∀ n, (∀ p ∈ l, n ≠ nx + p.1) → lkB mbF n = lkB (addN (nx + i) x mb) n := f2
    refine ⟨fun t ht => ?_, fun n hn => ?_, fun n hex hord => ?_, fun n hno hmn => ?_, fun p hp => ?_⟩
    · rw [f1 t (fun p hp => ht p (by simp [hp])), lkT_put, if_neg (ht (i, o) (by simp))]
    · rw [f2 n (fun p hp => hn p (by simp [hp])), lkB_addN, if_neg (fun e => hn (i, o) (by simp) e.1)]
    · obtain ⟨p, hp, j, hj, rfl⟩ := hex
      by_cases hin : ∃ p ∈ l, ∃ j', lkC cs p.1 = some j' ∧ nx + j = nx + j'
      · exact f2a _ hin (fun p hp q hq => hord p (by simp [hp]) q (by simp [hq]))
      · have hpi : p = (i, o) := by
          rcases List.mem_cons.1 hp with e | hp
          · exact e
          · exact (hin ⟨p, hp, j, hj, rfl⟩).elim
        subst hpi
        have hji := hcs _ (lkC_mem hj)
        simp only at hji hj
        -- the row is gone and is not made again
        have hgo : ∀ (l : List (Nat × Oper)) (tm : List (Nat × V)) (nb mb : List (Nat × Blk)), HRunC P B ops st0 nx cs tmF nbF mbF l tm nb mb → (∀ p ∈ l, nx + j ≠ nx + p.1) → lkB nb (nx + j) = none → lkB nbF (nx + j) = none := by
          intro l
          induction l with
          | nil => rintro tm nb mb ⟨_, rfl, _⟩ _ h; exact h
          | cons q l ih =>
            rintro tm nb mb ⟨v, x, rq, _, _, _, h⟩ hne h0
            refine ih _ _ _ h (fun p hp => hne p (by simp [hp])) ?_
            rw [lkB_addN, if_neg (fun e => hne q (by simp) e.1), lkB_delO, h0]
            split <;> rfl
        refine hgo l _ _ _ h2 (fun q hq e => by have := hlt q hq; omega) ?_
        rw [lkB_addN, if_neg (fun e => by omega), lkB_delO, if_pos ((rqOk_map hrq _).2 ⟨j, hj, rfl⟩)]
    · refine f2b n (fun p hp => hno p (by simp [hp])) ?_
      have hni : ¬ rq.map (·.1) = some n := fun e => by
        obtain ⟨j, h1, h2⟩ := (rqOk_map hrq n).1 e
        exact hno (i, o) (by simp) j h1 h2
      rw [lkB_addN, lkB_addN, lkB_delO, if_neg hni, hmn]
    · rcases List.mem_cons.1 hp with rfl | hp'
      · refine ⟨lkT tm, v, x, rq, h1, fun d hd => ?_, fun hnb => ?_, fun t q hq hlt' => ?_, fun t _ => rfl, hrq, fun z hz => ?_⟩
        · rw [f1 d (fun p hp => hne p hp d hd), lkT_put, if_pos hd]
        · rw [f2 (nx + i) (fun p hp e => by have := hlt p hp; omega), lkB_addN]
          cases x with
          | none => simp [hnb]
          | some b => simp
        · rcases List.mem_cons.1 hq with rfl | hq
          · exact (Nat.lt_irrefl _ hlt').elim
          · have := hlt q hq; omega
        · obtain ⟨j, hj1, hj2⟩ := (rqOk_map hrq z.1).1 (by rw [hz]; rfl)
          have hji := hcs _ (lkC_mem hj1)
          simp only at hji
          rw [f2 z.1 (fun p hp e => by have := hlt p hp; omega), lkB_addN, if_neg (fun e => by omega)]
          exact hsub _ _ (hn z hz)
      · obtain ⟨tmi, v', x', rq', g1, g2, g3, g4, g5, g6, g7⟩ := f3 p hp'
        have hip := hlt p hp'
        refine ⟨tmi, v', x', rq', g1, g2, fun hnb => g3 ?_, fun t q hq hql hqt => ?_, fun t ht => ?_, g6, g7⟩
        · rw [lkB_addN, if_neg (by rintro ⟨e, _⟩; omega)]; exact hnb
        · rcases List.mem_cons.1 hq with rfl | hq
          · have hqt' : o.dst = some t := hqt
            rw [g5 t (fun r hr _ => hne r hr t hqt'), f1 t (fun r hr => hne r hr t hqt')]
          · exact g4 t q hq hql hqt
        · rw [g5 t (fun q hq hql => ht q (by simp [hq]) hql), lkT_put, if_neg (ht (i, o) (by simp) hip)]
/-- the rows that heads take: each waits for what makes it, and none is taken twice -/
def takeOk (l : List Oper) (hd : List Nat) (cs : List (Nat × Nat)) : Bool :=
  cs.all (fun c => decide (c.2 < c.1) && hd.contains c.1 && reachB .any l.toArray l.length c.1 c.2) && decide (cs.map (·.1)).Nodup && decide (cs.map (·.2)).Nodup
end
end Go.Proofs.Ytlnkmaejiceloaa


namespace Go.Proofs.Ytlnkmaejiceloaa
set_option linter.unusedVariables false
set_option linter.unusedSimpArgs false
open Go.RowKit
section
variable {P : Program} {B : Base} {T : Tab}
/-- what is there when the operations in listed have run -/
def sgC (cs : List (Nat × Nat)) (nx : Nat) (mb st0 : List (Nat × Blk)) (listed : Array Bool) (n : Nat) : Option Blk :=
  if nx ≤ n then (if listed.getD (n - nx) false = true then (if (cs.any fun c => decide (n = nx + c.2) && listed.getD c.1 false) = true then none else lkB mb n) else none) else lkB st0 n
theorem wpAny_headsC {l : List Oper} {hd tail : List Nat} {cs : List (Nat × Nat)} {Q : Exit → Act → World → Prop} {tm0 tmF : List (Nat × V)} {st0 nbF mbF : List (Nat × Blk)} {nx : Nat} (hok : drawOk l hd tail = true) (hck : takeOk l hd cs = true) (hrun : HRunC P B l.toArray st0 nx cs tmF nbF mbF (pickOps l hd) tm0 [] []) (hN : (l.all (opOk B.N)) = true)
    (hst0 : ∀ n, nx ≤ n → lkB st0 n = none)
    (hQ : ∀ E a, Gam P B ⟨tmF, nbF ++ st0, nx + l.length⟩ E a → wpListIn (fen B.r) 0 P l.toArray Q ((pickOps l tail).map (·.2)) a E.w) :
    ∀ (F : Nat) (listed : Array Bool) (E : Env) (a : Act), GInv .any l.toArray listed → (∀ t ∈ tail, listed.getD t false = false) → hd.countP (fun i => !listed.getD i false) = F →
      GamS P B (sgC cs nx mbF st0 listed) (fun n => nx ≤ n ∧ (listed.getD (n - nx) false = true → lkB mbF n = none)) E →
      GamT B (fun t => if ((pickOps l hd).any fun p => p.2.dst == some t && listed.getD p.1 false) = true then lkT tmF t else lkT tm0 t) E a → wpAnyIn (fen B.r) 0 P .any l.toArray Q (F + tail.length) listed a E.w := by
  simp only [drawOk, Bool.and_eq_true] at hok
  obtain ⟨⟨⟨⟨⟨⟨⟨⟨⟨hsink, htl⟩, hpart⟩, hlt⟩, hnd⟩, hedge⟩, hincr⟩, hdep⟩, hseq⟩, _⟩ := hok
  simp only [takeOk, Bool.and_eq_true, decide_eq_true_eq] at hck
  obtain ⟨⟨hc1, hc2⟩, hc3⟩ := hck
  have hcs : ∀ c ∈ cs, c.2 < c.1 ∧ c.1 ∈ hd ∧ reachB .any l.toArray l.length c.1 c.2 = true := fun c hc => by
    have := List.all_eq_true.1 hc1 c hc
    simp only [Bool.and_eq_true, decide_eq_true_eq] at this
    exact ⟨this.1.1, by simpa using this.1.2, this.2⟩
  obtain ⟨f1, f2, f2a, f2b, f3⟩ := hrunC_facts (fun c hc => (hcs c hc).1) _ _ _ _ hincr (fun n q h => h) hrun
  have hnd' : hd.Nodup := by simpa using hnd
  have htl' : ∀ t ∈ tail, hd.contains t = false := fun t ht => by have := List.all_eq_true.1 htl t ht; simpa using this
  have hltl : ∀ i ∈ hd, i < l.length := fun i hi => by have := List.all_eq_true.1 hlt i hi; simpa using this
  intro F
  induction F with
  | zero =>
    intro listed E a inv hT hcnt hS hGT
    have hall : ∀ i ∈ hd, listed.getD i false = true := fun i hi => by
      have := List.countP_eq_zero.1 hcnt i hi
      simpa using this
    have hsz : listed.size = l.length := by rw [inv.size]; simp
    have hcan : listed = canonH l.length hd := by
      refine Array.ext_getElem? fun i => ?_
      have hcs := (foldl_canon hd (Array.replicate l.length false) i)
      have hcsz : (canonH l.length hd).size = l.length := by unfold canonH; rw [hcs.1]; simp
      by_cases hi : i < l.length
      · have e1 : listed[i]? = some (listed.getD i false) := by simp [Array.getD_eq_getD_getElem?, hsz, hi]
        have e2 : (canonH l.length hd)[i]? = some ((canonH l.length hd).getD i false) := by simp [Array.getD_eq_getD_getElem?, hcsz, hi]
        rw [e1, e2]
        congr 1
        unfold canonH
        rw [hcs.2]
        rw [getD_replicate_false]
        simp only [Array.size_replicate, Bool.false_or]
        by_cases hh : hd.contains i = true
        · rw [hh, hall i (by simpa using hh)]; simp [hi]
        · have := List.all_eq_true.1 hpart i (List.mem_range.2 hi)
          simp only [Bool.or_eq_true] at this
          rcases this with h | h
          · exact (hh h).elim
          · rw [hT i (by simpa using h)]; simp only [Bool.not_eq_true] at hh; rw [hh]; rfl
      · rw [Array.getElem?_eq_none (by omega), Array.getElem?_eq_none (by omega)]
    rw [Nat.zero_add]
    refine wpAnyIn_of_seqT tail listed a E.w (by rw [hcan]; exact hseq) (hQ E a ⟨hS.congr (fun n => ?_) (fun n hn => ?_), ⟨fun t => ?_, hGT.defers, hGT.size⟩⟩)
    · -- the blocks
      have hap : lkB (nbF ++ st0) n = match lkB nbF n with | some b => some b | none => lkB st0 n := by
        generalize nbF = nb
        induction nb with
        | nil => rfl
        | cons p nb ih =>
          obtain ⟨k, b⟩ := p
          simp only [List.cons_append, lkB]
          split
          · rfl
          · exact ih
      have hmb : ∀ m, (¬ ∃ p ∈ pickOps l hd, m = nx + p.1) → lkB mbF m = none := fun m hm => by
        rw [f2 m (fun p hp e => hm ⟨p, hp, e⟩)]; rfl
      show lkB (nbF ++ st0) n = _
      rw [hap]
      unfold sgC
      by_cases htk : ∃ p ∈ pickOps l hd, ∃ j, lkC cs p.1 = some j ∧ n = nx + j
      · have hno := f2a n htk (fun p hp q hq j hj e => by have := (hcs _ (lkC_mem hj)).1; simp only at this; omega)
        obtain ⟨p, hp, j, hj, rfl⟩ := htk
        rw [hno, if_pos (by omega)]
        have : (cs.any fun c => decide (nx + j = nx + c.2) && listed.getD c.1 false) = true :=
          List.any_eq_true.2 ⟨_, lkC_mem hj, by simp [hall p.1 (pickOps_mem.1 hp).1]⟩
        rw [if_pos this, hst0 _ (by omega), ite_self]
      · have hno := f2b n (fun p hp j hj e => htk ⟨p, hp, j, hj, e⟩) rfl
        rw [hno]
        by_cases hn : nx ≤ n
        · rw [if_pos hn]
          have hany : ¬ (cs.any fun c => decide (n = nx + c.2) && listed.getD c.1 false) = true := fun h => by
            obtain ⟨c, hc, h⟩ := List.any_eq_true.1 h
            simp only [Bool.and_eq_true, decide_eq_true_eq] at h
            have hch := (hcs c hc).2.1
            exact htk ⟨(c.1, getElem l c.1 (hltl _ hch)), pickOps_mem.2 ⟨hch, by simp [hltl _ hch]⟩, c.2, lkC_of_mem hc2 (by cases c; exact hc), h.1⟩
          rw [if_neg hany]
          by_cases hh : hd.contains (n - nx) = true
          · rw [if_pos (hall _ (by simpa using hh)), hst0 n hn]; cases lkB mbF n <;> rfl
          · have : lkB mbF n = none := hmb n (fun ⟨p, hp, e⟩ => hh (by
              have := (pickOps_mem.1 hp).1
              rw [e, Nat.add_sub_cancel_left]; simpa using this))
            rw [this, hst0 n hn]; simp
        · rw [if_neg hn]
          have : lkB mbF n = none := hmb n (fun ⟨p, hp, e⟩ => by omega)
          rw [this]
    · have hn' : nx + l.length ≤ n := hn
      refine ⟨by omega, fun h => ?_⟩
      rw [show listed.getD (n - nx) false = false by
        simp [Array.getD_eq_getD_getElem?, Array.getElem?_eq_none (show listed.size ≤ n - nx by omega)]] at h
      cases h
    · have := hGT.tm t
      show RV E (lkT tmF t) _
      by_cases hw : ((pickOps l hd).any fun p => p.2.dst == some t && listed.getD p.1 false) = true
      · rw [if_pos hw] at this; exact this
      · rw [if_neg hw] at this
        rw [f1 t (fun p hp e => hw (List.any_eq_true.2 ⟨p, hp, by simp [e, hall p.1 (pickOps_mem.1 hp).1]⟩))]
        exact this
  | succ F ih =>
    intro listed E a inv hT hcnt hS hGT
    have hsz : listed.size = l.length := by rw [inv.size]; simp
    rw [show F + 1 + tail.length = (F + tail.length) + 1 by omega]
    obtain ⟨k, hk, hku⟩ : ∃ k, k ∈ hd ∧ listed.getD k false = false := by
      have : 0 < hd.countP (fun i => !listed.getD i false) := by omega
      obtain ⟨k, h1, h2⟩ := List.countP_pos_iff.1 this
      exact ⟨k, h1, by simpa using h2⟩
    have hkl : k < l.length := hltl k hk
    have hku' : listed.getD k true = false := getD_in (by omega) hku
    refine ⟨fun hr => ?_, fun i hi => ?_⟩
    · obtain ⟨m, ⟨hm1, hm2⟩, hm3⟩ := exists_min (p := fun m => m < l.length ∧ listed.getD m false = false) ⟨k, hkl, hku⟩
      have : m ∈ Region.ready .any l.toArray listed := by
        refine mem_ready.2 ⟨getD_in (by omega) hm2, l[m], by simp [hm1], fun e he hb => ?_⟩
        have h1 := List.all_eq_true.1 hedge m (List.mem_range.2 hm1)
        rw [List.getElem?_eq_getElem hm1] at h1
        have h2 := List.all_eq_true.1 h1 e (by simpa using he)
        rw [hb] at h2
        simp at h2
        cases hc : listed.getD e.on false with
        | true => rfl
        | false => exact (hm3 e.on h2 ⟨by omega, hc⟩).elim
      rw [hr] at this
      cases this
    · have hih := sink_spec hsink inv (i := k) (by simpa using hkl) (by simpa using hk) hku' hi
      have hi' : i ∈ hd := by simpa using hih
      obtain ⟨hiun, o, ho, hafter⟩ := mem_ready.1 hi
      have hol : l[i]? = some o := by simpa using ho
      have hil : i < l.length := (List.getElem?_eq_some_iff.1 hol).1
      have hiun' := getD_both hiun
      have hmem : (i, o) ∈ pickOps l hd := pickOps_mem.2 ⟨hi', hol⟩
      obtain ⟨tmi, v, x, rq, g1, g2, g3, g4, g5, g6, g7⟩ := f3 (i, o) hmem
      simp only at g1 g2 g3 g4 g5 g6
      have g3 := g3 rfl
      have hopk := List.all_eq_true.1 hN o (List.mem_of_getElem? hol)
      have hbelow : ∀ j, reachB .any l.toArray l.length i j = true → listed.getD j false = true := fun j h =>
        reach_listed inv _ _ _ h (fun o' ho' e he hb => by
          have : o' = o := Option.some.inj (ho'.symm.trans ho)
          subst this
          exact hafter e he hb)
      have hclosed : ∀ q j, reachB .any l.toArray l.length q j = true → listed.getD q false = true → listed.getD j false = true := fun q j h hq =>
        reach_listed inv _ _ _ h (fun o' ho' e he hb => inv.closed q o' ho' hq e he hb)
      have hag : ∀ t ∈ o.looksAt l.toArray, (if ((pickOps l hd).any fun p => p.2.dst == some t && listed.getD p.1 false) = true then lkT tmF t else lkT tm0 t) = tmi t := fun t ht => by
        have hd1 := List.all_eq_true.1 hdep (i, o) hmem
        have hd2 := List.all_eq_true.1 hd1 t ht
        by_cases hw : ((pickOps l hd).any fun p => p.2.dst == some t && listed.getD p.1 false) = true
        · rw [if_pos hw]
          obtain ⟨q, hq, hq2⟩ := List.any_eq_true.1 hw
          simp only [Bool.and_eq_true, beq_iff_eq] at hq2
          have hd3 := List.all_eq_true.1 hd2 q hq
          simp only [Bool.or_eq_true, bne_iff_ne, ne_eq] at hd3
          rcases hd3 with h | h
          · exact (h hq2.1).elim
          · by_cases hlt2 : q.1 < i
            · exact (g4 t q hq hlt2 hq2.1).symm
            · rw [if_neg hlt2] at h
              simp only [Bool.and_eq_true, decide_eq_true_eq] at h
              have := hclosed _ _ h.2 hq2.2
              rw [hiun'] at this
              cases this
        · rw [if_neg hw]
          refine (g5 t (fun q hq hql hqt => hw (List.any_eq_true.2 ⟨q, hq, ?_⟩))).symm
          have hd3 := List.all_eq_true.1 hd2 q hq
          simp only [Bool.or_eq_true, bne_iff_ne, ne_eq] at hd3
          rcases hd3 with h | h
          · exact (h hqt).elim
          · rw [if_pos hql] at h
            have := hbelow _ h
            simp [hqt, this]
      have hst : ∀ n b, lkB st0 n = some b → sgC cs nx mbF st0 listed n = some b := fun n b hb => by
        unfold sgC
        by_cases hn : nx ≤ n
        · rw [hst0 n hn] at hb; cases hb
        · rw [if_neg hn]; exact hb
      have hrqs : ∀ p, rq = some p → sgC cs nx mbF st0 listed p.1 = some p.2 := fun p hp => by
        obtain ⟨j, hj, hpj⟩ := (rqOk_map g6 p.1).1 (by rw [hp]; rfl)
        have hcj := lkC_mem hj
        obtain ⟨hji, _, hr⟩ := hcs _ hcj
        simp only at hji hr
        unfold sgC
        rw [if_pos (by omega), hpj, Nat.add_sub_cancel_left, if_pos (hbelow j hr), if_neg, ← hpj]
        · exact g7 p hp
        · intro h
          obtain ⟨c, hc, h⟩ := List.any_eq_true.1 h
          simp only [Bool.and_eq_true, decide_eq_true_eq] at h
          have hc2' : c.2 = j := by omega
          have hci : c = (i, j) := by
            have hp2 := List.nodup_iff_pairwise_ne.1 hc3
            rw [List.pairwise_map, List.pairwise_iff_getElem] at hp2
            obtain ⟨a1, ha1, e1⟩ := List.getElem_of_mem hc
            obtain ⟨a2, ha2, e2⟩ := List.getElem_of_mem hcj
            rcases Nat.lt_trichotomy a1 a2 with h3 | h3 | h3
            · exact (hp2 a1 a2 ha1 ha2 h3 (by rw [e1, e2]; exact hc2')).elim
            · subst h3; rw [← e1, e2]
            · exact (hp2 a2 a1 ha2 ha1 h3 (by rw [e1, e2]; exact hc2'.symm)).elim
          rw [hci] at h
          simp only at h
          rw [hiun'] at h
          cases h.2
      obtain ⟨h1, h2⟩ := g1 _ _ _ E a hS hGT ⟨by omega, fun h => by rw [Nat.add_sub_cancel_left, hiun'] at h; cases h⟩ hst hrqs hag
      have inv2 := inv.set hi
      have hself : (listed.setIfInBounds i true).getD i false = true := by simp [hsz, hil]
      have hoth : ∀ j, j ≠ i → (listed.setIfInBounds i true).getD j false = listed.getD j false := fun j hj => getD_set_ne false (Ne.symm hj)
      have hT2 : ∀ t ∈ tail, (listed.setIfInBounds i true).getD t false = false := fun t ht => by
        rw [hoth t (fun e => by have := htl' t ht; rw [e] at this; rw [this] at hih; cases hih)]; exact hT t ht
      have hcnt2 : hd.countP (fun j => !(listed.setIfInBounds i true).getD j false) = F := by
        have := countP_set hnd' hi' (f := fun j => !listed.getD j false) (g := fun j => !(listed.setIfInBounds i true).getD j false) (by simp [hiun']) (by simp [hself]) (fun j hj => by rw [hoth j hj])
        omega
      -- nobody has taken what i makes
      have hnt : ∀ c ∈ cs, c.2 = i → listed.getD c.1 false = false := fun c hc e => by
        obtain ⟨_, _, hr⟩ := hcs c hc
        cases hq : listed.getD c.1 false with
        | false => rfl
        | true =>
          have := hclosed _ _ hr hq
          rw [e, hiun'] at this
          cases this
      have hσ2 : ∀ n, sgC cs nx mbF st0 (listed.setIfInBounds i true) n = if n = nx + i then x else if rq.map (·.1) = some n then none else sgC cs nx mbF st0 listed n := fun n => by
        by_cases hn : n = nx + i
        · subst hn
          rw [if_pos rfl]
          unfold sgC
          rw [if_pos (by omega), Nat.add_sub_cancel_left, if_pos hself, if_neg, g3]
          intro h
          obtain ⟨c, hc, h⟩ := List.any_eq_true.1 h
          simp only [Bool.and_eq_true, decide_eq_true_eq] at h
          have hci : c.2 = i := by omega
          have := (hcs c hc).1
          rw [hoth c.1 (by omega), hnt c hc hci] at h
          cases h.2
        · rw [if_neg hn]
          by_cases hrn : rq.map (·.1) = some n
          · rw [if_pos hrn]
            obtain ⟨j, hj, rfl⟩ := (rqOk_map g6 n).1 hrn
            unfold sgC
            rw [if_pos (by omega)]
            have : (cs.any fun c => decide (nx + j = nx + c.2) && (listed.setIfInBounds i true).getD c.1 false) = true := List.any_eq_true.2 ⟨(i, j), lkC_mem hj, by simp [hself]⟩
            rw [if_pos this]
            split <;> rfl
          · rw [if_neg hrn]
            unfold sgC
            by_cases hn2 : nx ≤ n
            · rw [if_pos hn2, if_pos hn2, hoth (n - nx) (by omega)]
              have : (cs.any fun c => decide (n = nx + c.2) && (listed.setIfInBounds i true).getD c.1 false) = (cs.any fun c => decide (n = nx + c.2) && listed.getD c.1 false) := by
                rw [Bool.eq_iff_iff, List.any_eq_true, List.any_eq_true]
                constructor
                · rintro ⟨c, hc, h⟩
                  simp only [Bool.and_eq_true, decide_eq_true_eq] at h
                  by_cases hci : c.1 = i
                  · refine (hrn ((rqOk_map g6 n).2 ⟨c.2, ?_, h.1⟩)).elim
                    exact lkC_of_mem hc2 (by rw [← hci]; cases c; exact hc)
                  · rw [hoth _ hci] at h
                    exact ⟨c, hc, by simp [h.1, h.2]⟩
                · rintro ⟨c, hc, h⟩
                  simp only [Bool.and_eq_true, decide_eq_true_eq] at h
                  exact ⟨c, hc, by simp only [Bool.and_eq_true, decide_eq_true_eq]; exact ⟨h.1, getD_set_true h.2⟩⟩
              rw [this]
            · rw [if_neg hn2, if_neg hn2]
      have hfr2 : ∀ n, (nx ≤ n ∧ ((listed.setIfInBounds i true).getD (n - nx) false = true → lkB mbF n = none)) → (nx ≤ n ∧ (listed.getD (n - nx) false = true → lkB mbF n = none)) ∧ (x.isSome = true → n ≠ nx + i) := fun n hn => by
        refine ⟨⟨hn.1, fun h => hn.2 (getD_set_true h)⟩, fun hx e => ?_⟩
        subst e
        have := hn.2 (by rw [Nat.add_sub_cancel_left]; exact hself)
        rw [g3] at this
        rw [this] at hx
        cases hx
      have htm2 : ∀ t, (if ((pickOps l hd).any fun p => p.2.dst == some t && (listed.setIfInBounds i true).getD p.1 false) = true then lkT tmF t else lkT tm0 t) = if o.dst = some t then v else (if ((pickOps l hd).any fun p => p.2.dst == some t && listed.getD p.1 false) = true then lkT tmF t else lkT tm0 t) := fun t => by
        by_cases hd1 : o.dst = some t
        · rw [if_pos hd1, if_pos (List.any_eq_true.2 ⟨(i, o), hmem, by simp [hd1, hself]⟩), g2 t hd1]
        · rw [if_neg hd1]
          have : ((pickOps l hd).any fun p => p.2.dst == some t && (listed.setIfInBounds i true).getD p.1 false) = ((pickOps l hd).any fun p => p.2.dst == some t && listed.getD p.1 false) := by
            rw [Bool.eq_iff_iff, List.any_eq_true, List.any_eq_true]
            constructor
            · rintro ⟨p, hp, h⟩
              simp only [Bool.and_eq_true, beq_iff_eq] at h
              have hpi : p.1 ≠ i := fun e => by
                have := (pickOps_mem.1 hp).2
                rw [e, hol] at this
                injection this with this
                rw [← this] at h
                exact hd1 h.1
              rw [hoth p.1 hpi] at h
              exact ⟨p, hp, by simp [h.1, h.2]⟩
            · rintro ⟨p, hp, h⟩
              simp only [Bool.and_eq_true, beq_iff_eq] at h
              exact ⟨p, hp, by simp [h.1, getD_set_true h.2]⟩
          rw [this]
      have hdN : ∀ t, o.dst = some t → t < B.N := fun t e => by
        have : (match o.dst with | some d => decide (d < B.N) | none => true) = true := by
          simp only [opOk, Bool.and_eq_true] at hopk; exact hopk.2
        rw [e] at this
        simpa using this
      unfold wpOpIn
      simp only [ho]
      cases hw : Region.wanted o (yielded l.toArray a.tmps) with
      | true =>
        rw [if_pos rfl]
        refine (h1 hw).wpIn ?_
        rintro u w' ⟨E', rfl, hS', hext, hdp, hv⟩
        exact ih _ E' _ inv2 hT2 hcnt2 (hS'.congr hσ2 hfr2) ((hGT.ext hext hdp).putF (fun t e => ⟨hv, hdN t e⟩) htm2)
      | false =>
        rw [if_neg (by simp)]
        obtain ⟨rfl, rfl, hv⟩ := h2 hw
        have hσn : ∀ n, (if n = nx + i then none else if (none : Option (Nat × Blk)).map (·.1) = some n then none else sgC cs nx mbF st0 listed n) = sgC cs nx mbF st0 listed n := fun n => by
          by_cases hn : n = nx + i
          · subst hn
            unfold sgC
            rw [if_pos rfl, if_pos (by omega), Nat.add_sub_cancel_left, hiun', if_neg (by simp)]
          · rw [if_neg hn, if_neg (by simp)]
        exact ⟨fun _ _ => trivial, ih _ E _ inv2 hT2 hcnt2 (hS.congr (fun n => (hσ2 n).trans (hσn n)) (fun n hn => (hfr2 n hn).1)) (hGT.putF (fun t e => ⟨hv, hdN t e⟩) htm2)⟩
/-- an append stays in the head -/
def isTC : Op → Bool
  | .call ⟨.builtin .append, _, _⟩ => false
  | op => isT op
def headC : Nat → List Oper → List Nat
  | _, [] => []
  | k, o :: l => match isTC o.op with
    | true => headC (k + 1) l
    | false => k :: headC (k + 1) l
def tailC : Nat → List Oper → List Nat
  | _, [] => []
  | k, o :: l => match isTC o.op with
    | true => k :: tailC (k + 1) l
    | false => tailC (k + 1) l
/-- the appends to what is made in the region -/
def whoMakes (t : Tmp) : Nat → List Oper → Option Nat
  | _, [] => none
  | k, o :: l => if o.dst = some t then some k else whoMakes t (k + 1) l
def takes (all : List Oper) : Nat → List Oper → List (Nat × Nat)
  | _, [] => []
  | k, o :: l => match o.op with
    | .call ⟨.builtin .append, asA, _⟩ => match asA.toList with
      | .tmp t :: _ => match whoMakes t 0 all with
        | some j => (k, j) :: takes all (k + 1) l
        | none => takes all (k + 1) l
      | _ => takes all (k + 1) l
    | _ => takes all (k + 1) l
theorem aw_regionC {id : Nat} {l : List Oper} {s : St} {Q : AQ} (hd tail : List Nat) (cs : List (Nat × Nat)) (hT : TabOk P T) (hm : P.follows .mixedOrders = true) (hl : (l.all (opOk B.N)) = true) (hok : drawOk l hd tail = true) (hck : takeOk l hd cs = true)
    (h : hwpC P T l.toArray s.st s.nx cs (pickOps l hd) s.tm [] (fun tm nb => rwp P B T l.toArray ((pickOps l tail).map (·.2)) ⟨tm, nb ++ s.st, s.nx + l.length⟩ (Q .normal))) : AW P B (.region id l.toArray true) Q ⟨⟩ s := fun E a hG => by
  have hops0 : ∀ o ∈ l.toArray.toList, opOk B.N o = true := fun o ho => List.all_eq_true.1 hl o (by simpa using ho)
  have hc : ((pickOps l hd).all fun p => p.2.op.operands.toList.all (constOk B.N)) = true := List.all_eq_true.2 fun p hp => by
    have := List.all_eq_true.1 hl p.2 (List.mem_of_getElem? (pickOps_mem.1 hp).2)
    simp only [opOk, Bool.and_eq_true] at this
    exact this.1
  obtain ⟨tmF, nbF, mbF, hK, hrun⟩ := hwpC_ok (B := B) hT hops0 _ _ _ [] hc h
  have hG' := gam_drew hG
  have hst0 : ∀ n, s.nx ≤ n → lkB s.st n = none := fun n hn => hG.1.none_of_fresh hn
  refine wpIn_region_any hm ?_
  have htail : ((pickOps l tail).map (·.2)).all (opOk B.N) = true := List.all_eq_true.2 fun o ho => by
    obtain ⟨p, hp, rfl⟩ := List.mem_map.1 ho
    exact List.all_eq_true.1 hl p.2 (List.mem_of_getElem? (pickOps_mem.1 hp).2)
  have := wpAny_headsC (Q := AQQ P B Q) hok hck hrun hl hst0 (fun E a hG => rwp_list hT hops0 _ _ _ htail hK (fun s' hs E a hG => ⟨E, s', rfl, hG, hs⟩) E a hG) hd.length (Array.replicate l.toArray.size false) ⟨E.η, E.F, { E.w with drawn := E.w.drawn + 1 }, E.dp⟩ a
    ⟨by simp, fun j oj _ hl => (by rw [getD_replicate_false] at hl; cases hl)⟩ (fun t _ => getD_replicate_false _ _) (by
      rw [List.countP_eq_length]; intro i _; rw [getD_replicate_false]; rfl)
    (hG'.1.congr (fun n => by
      unfold sgC
      rw [getD_replicate_false]
      by_cases hn : s.nx ≤ n
      · rw [if_pos hn, if_neg (by simp), hst0 n hn]
      · rw [if_neg hn]) (fun n hn => hn.1))
    ⟨fun t => by
      have : ((pickOps l hd).any fun p => p.2.dst == some t && (Array.replicate l.toArray.size false).getD p.1 false) = false := by
        rw [List.any_eq_false]; intro p _; rw [getD_replicate_false]; simp
      rw [this, if_neg (by simp)]
      exact hG'.2.tm t, hG'.2.defers, hG'.2.size⟩
  have hlen : hd.length + tail.length = l.length := by
    simp only [drawOk, Bool.and_eq_true, decide_eq_true_eq] at hok
    exact hok.2
  rw [hlen] at this
  simpa using this
/-- a region that draws its order, its appends in the head -/
theorem aw_drawnC {id : Nat} {ops : Array Oper} {s : St} {Q : AQ} (hT : TabOk P T) (hm : P.follows .mixedOrders = true) (hl : (ops.toList.all (opOk B.N)) = true)
    (hok : (drawOk ops.toList (headC 0 ops.toList) (tailC 0 ops.toList) && takeOk ops.toList (headC 0 ops.toList) (takes ops.toList 0 ops.toList)) = true)
    (h : hwpC P T ops s.st s.nx (takes ops.toList 0 ops.toList) (pickOps ops.toList (headC 0 ops.toList)) s.tm [] (fun tm nb => rwp P B T ops ((pickOps ops.toList (tailC 0 ops.toList)).map (·.2)) ⟨tm, nb ++ s.st, s.nx + ops.toList.length⟩ (Q .normal))) : AW P B (.region id ops true) Q ⟨⟩ s := by
  simp only [Bool.and_eq_true] at hok
  exact aw_regionC (l := ops.toList) _ _ _ hT hm hl hok.1 hok.2 h
end
end Go.Proofs.Ytlnkmaejiceloaa

