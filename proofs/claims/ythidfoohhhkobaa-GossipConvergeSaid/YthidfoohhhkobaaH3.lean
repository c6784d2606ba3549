import Derived.Test.YthidfoohhhkobaaH2
import Derived.StringKeys
namespace Go.Proofs.Ythidfoohhhkobaa
set_option linter.unusedVariables false
set_option linter.unusedSimpArgs false
open Go.RowKit
def lkC : List (Nat × Nat) → Nat → Option Nat
  | [], _ => none
  | (i, j) :: l, k => if k = i then some j else lkC l k
theorem lkC_mem : ∀ {cs : List (Nat × Nat)} {i j : Nat}, lkC cs i = some j → (i, j) ∈ cs
  | [], _, _, h => by cases h
  | (a, b) :: cs, i, j, h => by
    simp only [lkC] at h
    split at h
    · rename_i e; cases h; subst e; simp
    · exact List.mem_cons_of_mem _ (lkC_mem h)
theorem lkC_of_mem : ∀ {cs : List (Nat × Nat)} {i j : Nat}, (cs.map (·.1)).Nodup → (i, j) ∈ cs → lkC cs i = some j
  | [], _, _, _, h => by cases h
  | (a, b) :: cs, i, j, hn, h => by
    simp only [List.map_cons, List.nodup_cons] at hn
    simp only [lkC]
    rcases List.mem_cons.1 h with e | h
    · cases e; rw [if_pos rfl]
    · rw [if_neg (fun e => hn.1 (by rw [← e]; exact List.mem_map.2 ⟨(i, j), h, rfl⟩)), lkC_of_mem hn.2 h]
section
variable {P : Program} {B : Base} {T : Tab} {ops : Array Oper}
def HG (P : Program) (B : Base) (ops : Array Oper) (o : Oper) (tmi : Nat → V) (st0 : Nat → Option Blk) (rq : Option (Nat × Blk)) (nm : Nat) (v : V) (x : Option Blk) : Prop :=
  ∀ (tm : Nat → V) (σ : Nat → Option Blk) (fr : Nat → Prop) (E : Env) (a : Act), GamS P B σ fr E → GamT B tm E a → fr nm → (∀ n b, st0 n = some b → σ n = some b) → (∀ p, rq = some p → σ p.1 = some p.2) → (∀ t ∈ o.looksAt ops, tm t = tmi t) →
    (Region.wanted o (yielded ops a.tmps) = true → Upon P (fun u w' => ∃ E', E'.w = w' ∧ GamS P B (fun n => if n = nm then x else if rq.map (·.1) = some n then none else σ n) (fun n => fr n ∧ (x.isSome = true → n ≠ nm)) E' ∧ Ext E E' ∧ E'.dp = E.dp ∧ RV E' v u) ((execOp a.eval o).run P E.w)) ∧
    (Region.wanted o (yielded ops a.tmps) = false → x = none ∧ rq = none ∧ RV E v undef)
theorem HG.of {o : Oper} {tmi : Nat → V} {st0 : Nat → Option Blk} {nm : Nat} {v : V} {x : Option Blk} (h : HF P B ops o tmi st0 nm v x) : HG P B ops o tmi st0 none nm v x := by
  intro tm σ fr E a hS hT hfr hst _ hag
  obtain ⟨h1, h2⟩ := h tm σ fr E a hS hT hfr hst hag
  exact ⟨fun hw => (h1 hw).mono fun u w' ⟨E', e, hS', hr⟩ => ⟨E', e, hS'.congr (fun n => by simp) (fun n hn => hn), hr⟩, fun hw => ⟨(h2 hw).1, rfl, (h2 hw).2⟩⟩
def apH (nb : List (Nat × Blk)) (el : Nat) (i : TyI) (K : List D → List (List D) → Option (Nat × Blk) → Prop) : V → Prop
  | .d (.c (.slice none 0 0)) => K (zD i.z) [] none
  | .ow n sz d0 es => match lkB nb n with
    | some (.tok e sz' len) => e = el ∧ sz = i.sz ∧ sz' = i.sz ∧ len = es.length ∧ K d0 es (some (n, .tok e sz' len))
    | _ => False
  | _ => False
theorem apH_ok {nb : List (Nat × Blk)} {el : Nat} {i : TyI} {K : List D → List (List D) → Option (Nat × Blk) → Prop} {x : V} (h : apH nb el i K x) : ∃ d0 es rq, K d0 es rq ∧ (∀ p, rq = some p → lkB nb p.1 = some p.2) ∧ ∀ {B : Base} {σ : Nat → Option Blk} {fr : Nat → Prop} {E : Env} {v0 : Value}, GamS P B σ fr E → (∀ p, rq = some p → σ p.1 = some p.2) → RV E x v0 →
    ∃ us0, E.w.ownsRow 0 el i.sz v0 es.length us0 ∧ RDL E.F E.w es.flatten us0 ∧ (∀ u ∈ us0, u.oneCell' = true) ∧ (∀ x ∈ es, x.length = i.sz) ∧ (∀ b, hb v0 = some b → okB B E b (fun o => o < es.length * i.sz)) ∧ ∀ k y, (if rq.map (·.1) = some k then none else σ k) = some y → σ k = some y ∧ ∀ v b, E.η k = some v → hb v = some b → hb v0 ≠ some b := by
  unfold apH at h
  split at h <;> try exact h.elim
  · refine ⟨_, _, _, h, (fun p hp => by cases hp), fun hg _ hv => ?_⟩
    simp only [RV, RD] at hv
    subst hv
    exact ⟨[], World.ownsRow_nil _ _ _ _, by simp [RDL], by simp, by simp, fun b hb' => by simp [hb] at hb', fun k y hy => ⟨by simpa using hy, fun v b _ _ => by simp [hb]⟩⟩
  · rename_i n sz d0 es
    split at h <;> try exact h.elim
    rename_i e sz' len hst
    obtain ⟨rfl, rfl, rfl, rfl, h⟩ := h
    refine ⟨_, _, _, h, (fun p hp => by cases hp; exact hst), fun {B σ fr E v0} hg hrq hv => ?_⟩
    have hst' := hrq _ rfl
    simp only at hst'
    simp only [RV] at hv
    obtain ⟨v1, us, h1, h2, h3⟩ := hg.st n _ hst'
    rw [hv.1] at h1
    cases h1
    obtain ⟨g1, g2, g3, _⟩ := own_cells hv.2 h2
    refine ⟨us, h2, g1, g2, g3, h3, fun k y hy => ?_⟩
    by_cases hk : k = n
    · rw [if_pos (by simp [hk])] at hy; cases hy
    · rw [if_neg (by simp; exact fun e => hk e.symm)] at hy
      exact ⟨hy, fun v b hvk hbk hb0 => hg.dist k n y _ b v v0 hk hy hst' hvk hv.1 hbk hb0⟩
def apKH (T : Tab) (nb : List (Nat × Blk)) (nm : Nat) (K : V → Option Blk → Option (Nat × Blk) → Prop) : List TypeId → List V → Prop
  | [t, t'], [x, y] => t = t' ∧ match ty T t with
    | some ⟨.slice el, _, _, _⟩ => match ty T el with
      | some i => (0 < i.sz ∧ i.z.cells.size = i.sz) ∧ apH nb el i (fun d0 es rq => apS i.sz (fun fs => (es.length + fs.length) * i.by_ ≤ 140737488355328 ∧ es.length + fs.length ≤ 140737488351232 ∧ K (.ow nm i.sz d0 (es ++ fs)) (some (.tok el i.sz (es.length + fs.length))) rq) y) x
      | none => False
    | _ => False
  | _, _ => False
theorem apKH_ok {o : Oper} {tmi : Nat → V} {st0 : Nat → Option Blk} {nb : List (Nat × Blk)} {nm : Nat} (hT : TabOk P T) {c : Call} (ho : o.op = .call c) (hgd : o.guard = none) (hc : c.callee = .builtin .append) (hco : (c.args.toList.all (constOk B.N)) = true) {K : V → Option Blk → Option (Nat × Blk) → Prop} (h : apKH T nb nm K c.argTypes.toList (c.args.toList.map (ev tmi))) :
    ∃ v x rq, K v x rq ∧ (∀ p, rq = some p → lkB nb p.1 = some p.2) ∧ HG P B ops o tmi st0 rq nm v x := by
  generalize hts : c.argTypes.toList = ts at h
  generalize has : c.args.toList.map (ev tmi) = vs at h
  unfold apKH at h
  split at h <;> try exact h.elim
  rename_i t t' x y
  obtain ⟨rfl, h⟩ := h
  have hts' : c.argTypes = #[t, t] := by rw [← Array.toArray_toList (xs := c.argTypes), hts]
  obtain ⟨p, q, h1, h2, h3⟩ := args_two has
  have has' : c.args = #[p, q] := by rw [← Array.toArray_toList (xs := c.args), h1]
  split at h <;> try exact h.elim
  rename_i el sz z bt hi1
  split at h <;> try exact h.elim
  rename_i i hi2
  obtain ⟨⟨hpos, hzs⟩, h⟩ := h
  obtain ⟨d0, es, rq, h, hrqn, hD⟩ := apH_ok (P := P) h
  obtain ⟨fs, ⟨hby, hmax, hK⟩, hS⟩ := apS_ok h
  refine ⟨_, _, rq, hK, hrqn, fun tm σ fr E a hS0 hT0 hfr hst hrq hag => ?_⟩
  have hw : Region.wanted o (yielded ops a.tmps) = true := by simp [Region.wanted, hgd]
  refine ⟨fun _ => ?_, fun h' => by rw [hw] at h'; cases h'⟩
  rw [h1] at hco
  simp only [List.all_cons, List.all_nil, Bool.and_true, Bool.and_eq_true] at hco
  have hpo : p ∈ o.op.operands := by rw [ho]; simp [Op.operands, Call.operands, has']
  have hqo : q ∈ o.op.operands := by rw [ho]; simp [Op.operands, Call.operands, has']
  have rx := ev_ok hT0 p hco.1
  have ry := ev_ok hT0 q hco.2
  rw [ev_congr hag hpo, h2] at rx
  rw [ev_congr hag hqo, h3] at ry
  obtain ⟨us0, k1, k2, k3, k4, k5, k6⟩ := hD hS0 hrq rx
  have ht := (ty_ok hT hi1).2
  have hinf := (ty_ok hT hi2).1
  simp only [kdOk] at ht
  obtain ⟨j, hj, hz, hsz, hbyt⟩ : ∃ j, P.info? el = some j ∧ j.zero = some i.z ∧ j.size = i.sz ∧ j.bytes = i.by_ := by
    cases hj : P.info? el with
    | none => rw [hj] at hinf; cases hinf
    | some j => rw [hj] at hinf; simp at hinf; exact ⟨j, rfl, hinf.2.1, hinf.1, hinf.2.2⟩
  obtain ⟨a0, c0, hv0, _⟩ := own_form k1
  have hgrow : ∃ v' w' news, (Builtin.append_ #[t, t] o.type #[a.eval p, a.eval q]).run P E.w = .ok v' w' ∧ Grew 0 el i.sz E.w (a.eval p) v' (es.length + fs.length) (us0 ++ news) w' ∧ (∀ g, (a.eval p).ownBlock = some g → v'.ownBlock = some g ∨ w'.heap[g]? = E.w.heap[g]?) ∧ RDL E.F E.w fs.flatten news ∧ (∀ u ∈ news, u.oneCell' = true) ∧ ∀ x ∈ fs, x.length = i.sz := by
    rcases hS ry with ⟨c1, hu, rfl⟩ | ⟨ad, c1, news, hu, g1, g2, g3, g4, g5⟩
    · refine ⟨a.eval p, E.w, [], by rw [hu]; exact run_append_none E.w 0 t _ el j ht hj _ _ _ k1 c1, by simpa using Grew.refl k1, fun _ _ => .inr rfl, by simp [RDL], by simp, by simp⟩
    · obtain ⟨v', w', r1, r2, r3⟩ := run_append_own3 (P := P) E.w 0 t o.type el j i.z i.sz i.by_ ht hj hz hsz hbyt hzs hpos (a.eval p) es.length us0 k1 ad fs.length c1 news g2 g5 g3 (by unfold maxLen; omega) hby (Nat.zero_le _)
      exact ⟨v', w', news, by rw [hu]; exact r1, r2, r3, g1, g3, g4⟩
  obtain ⟨v', w', news, r1, r2, r3, r4, r5, r6⟩ := hgrow
  have hσn : (if rq.map (·.1) = some nm then none else σ nm) = none := by
    rw [hS0.none_of_fresh hfr]; split <;> rfl
  have hdp : ∀ b, hb (a.eval p) = some b → E.w.heap[b]? ≠ some (.deferred (some [])) := fun b hb' => by
    rcases k1.2 with ⟨e1, _⟩ | ⟨g, cap, cur, e1, _, e3, _⟩
    · rw [e1] at hb'; cases hb'
    · rw [e1] at hb'; cases hb'; rw [e3]; simp
  obtain ⟨E', hw', hG, hE, hR, hD'⟩ := GamS.grow (d0 := d0) (σ1 := fun k => if rq.map (·.1) = some k then none else σ k) (σ' := fun n => if n = nm then some (.tok el i.sz (es.length + fs.length)) else if rq.map (·.1) = some n then none else σ n) (fr' := fun n => fr n ∧ ((some (Blk.tok el i.sz (es.length + fs.length))).isSome = true → n ≠ nm)) (nx := nm) (m := fs.length) hS0 hdp hfr (fun k hk => ⟨hk.1, hk.2 rfl⟩) (fun k => rfl) k6 hσn k5 r2 r3 (ownBlock_hb hv0) rfl rfl k1.1
    (fun g hg' j u hj => by
      have := k1.cells (g := g) ((ownBlock_hb hv0).trans hg') j u hj
      rwa [Addr.add_any, Nat.zero_add] at this) k2 r4 k3 r5 k4 r6 hmax
  have hrun : (execOp a.eval o).run P E.w = .ok (.value v') w' := by simp [execOp, ho, resolve, hc, has', hts', invoke, builtin, r1]
  rw [hrun]
  simp only [Upon]
  exact ⟨E', hw', hG, hE, hD', hR⟩
def delO : Option (Nat × Blk) → List (Nat × Blk) → List (Nat × Blk)
  | none, l => l
  | some p, l => delB p.1 l
def rqOk (cs : List (Nat × Nat)) (nx i : Nat) : Option (Nat × Blk) → Prop
  | none => lkC cs i = none
  | some p => lkC cs i = some (p.1 - nx) ∧ nx ≤ p.1
def hopC (P : Program) (T : Tab) (ops : Array Oper) (o : Oper) (tm : List (Nat × V)) (st0 nb : List (Nat × Blk)) (nm : Nat) (K : V → Option Blk → Option (Nat × Blk) → Prop) : Prop :=
  match o.guard with
  | none => match o.op with
    | .call ⟨.builtin .append, asA, ts⟩ => apKH T nb nm K ts.toList (asA.toList.map (ev (lkT tm)))
    | op => hop P T True op (ev (lkT tm)) (lkB st0) nm (fun v x => K v x none)
  | some _ => hopH P T ops o tm st0 nm (fun v x => K v x none)
theorem hopC_ok (hT : TabOk P T) {o : Oper} {tm : List (Nat × V)} {st0 nb : List (Nat × Blk)} {nm : Nat} {K : V → Option Blk → Option (Nat × Blk) → Prop} (hops : ∀ o ∈ ops.toList, opOk B.N o = true) (hc : (o.op.operands.toList.all (constOk B.N)) = true) (h : hopC P T ops o tm st0 nb nm K) :
    ∃ v x rq, K v x rq ∧ (∀ p, rq = some p → lkB nb p.1 = some p.2) ∧ HG P B ops o (lkT tm) (lkB st0) rq nm v x := by
  unfold hopC at h
  split at h
  · rename_i hg
    split at h
    · rename_i asA ts hop
      refine apKH_ok hT hop hg rfl ?_ h
      refine List.all_eq_true.2 fun z hz => List.all_eq_true.1 hc z ?_
      rw [hop]
      simp only [Op.operands, Call.operands]
      simp [Array.mem_toList_iff.1 hz]
    · obtain ⟨v, x, hK, hd⟩ := hop_ok hT h
      exact ⟨v, x, none, hK, (fun p hp => by cases hp), .of (hf_next hc hg (hd trivial))⟩
  · obtain ⟨v, x, hK, hf⟩ := hopH_ok hT hops hc h
    exact ⟨v, x, none, hK, (fun p hp => by cases hp), .of hf⟩
def hwpC (P : Program) (T : Tab) (ops : Array Oper) (st0 : List (Nat × Blk)) (nx : Nat) (cs : List (Nat × Nat)) : List (Nat × Oper) → List (Nat × V) → List (Nat × Blk) → (List (Nat × V) → List (Nat × Blk) → Prop) → Prop
  | [], tm, nb, K => K tm nb
  | (i, o) :: l, tm, nb, K => hopC P T ops o tm st0 nb (nx + i) (fun v x rq => rqOk cs nx i rq ∧ hwpC P T ops st0 nx cs l (put o.dst v tm) (addN (nx + i) x (delO rq nb)) K)
def HRunC (P : Program) (B : Base) (ops : Array Oper) (st0 : List (Nat × Blk)) (nx : Nat) (cs : List (Nat × Nat)) (tmF : List (Nat × V)) (nbF mbF : List (Nat × Blk)) : List (Nat × Oper) → List (Nat × V) → List (Nat × Blk) → List (Nat × Blk) → Prop
  | [], tm, nb, mb => tmF = tm ∧ nbF = nb ∧ mbF = mb
  | (i, o) :: l, tm, nb, mb => ∃ v x rq, (∀ p, rq = some p → lkB nb p.1 = some p.2) ∧ HG P B ops o (lkT tm) (lkB st0) rq (nx + i) v x ∧ rqOk cs nx i rq ∧ HRunC P B ops st0 nx cs tmF nbF mbF l (put o.dst v tm) (addN (nx + i) x (delO rq nb)) (addN (nx + i) x mb)
theorem hwpC_ok (hT : TabOk P T) {st0 : List (Nat × Blk)} {nx : Nat} {cs : List (Nat × Nat)} {K : List (Nat × V) → List (Nat × Blk) → Prop} (hops : ∀ o ∈ ops.toList, opOk B.N o = true) : ∀ (l : List (Nat × Oper)) (tm : List (Nat × V)) (nb mb : List (Nat × Blk)), (l.all fun p => p.2.op.operands.toList.all (constOk B.N)) = true → hwpC P T ops st0 nx cs l tm nb K → ∃ tmF nbF mbF, K tmF nbF ∧ HRunC P B ops st0 nx cs tmF nbF mbF l tm nb mb
  | [], tm, nb, mb, _, h => ⟨tm, nb, mb, h, rfl, rfl, rfl⟩
  | (i, o) :: l, tm, nb, mb, hc, h => by
    simp only [List.all_cons, Bool.and_eq_true] at hc
    obtain ⟨v, x, rq, ⟨hq, h1⟩, hn, h2⟩ := hopC_ok (B := B) hT hops hc.1 h
    obtain ⟨tmF, nbF, mbF, h3, h4⟩ := hwpC_ok hT hops l _ _ (addN (nx + i) x mb) hc.2 h1
    exact ⟨tmF, nbF, mbF, h3, v, x, rq, hn, h2, hq, h4⟩
theorem lkB_delO {rq : Option (Nat × Blk)} {l : List (Nat × Blk)} (n : Nat) : lkB (delO rq l) n = if rq.map (·.1) = some n then none else lkB l n := by
  cases rq with
  | none => simp [delO]
  | some p =>
    simp only [delO, lkB_delB, Option.map_some, Option.some.injEq]
    by_cases h : n = p.1
    · rw [if_pos h, if_pos h.symm]
    · rw [if_neg h, if_neg (fun e => h e.symm)]
theorem rqOk_map {cs : List (Nat × Nat)} {nx i : Nat} {rq : Option (Nat × Blk)} (h : rqOk cs nx i rq) (n : Nat) : rq.map (·.1) = some n ↔ ∃ j, lkC cs i = some j ∧ n = nx + j := by
  cases rq with
  | none =>
    simp only [rqOk] at h
    simp [h]
  | some p =>
    simp only [rqOk] at h
    simp only [Option.map_some, Option.some.injEq]
    constructor
    · intro e; exact ⟨_, h.1, by omega⟩
    · rintro ⟨j, h1, h2⟩
      rw [h.1] at h1
      injection h1 with h1
      omega
theorem hrunC_facts {st0 : List (Nat × Blk)} {nx : Nat} {cs : List (Nat × Nat)} {tmF : List (Nat × V)} {nbF mbF : List (Nat × Blk)} (hcs : ∀ c ∈ cs, c.2 < c.1) : ∀ (l : List (Nat × Oper)) (tm : List (Nat × V)) (nb mb : List (Nat × Blk)), incr l = true → (∀ n q, lkB nb n = some q → lkB mb n = some q) → HRunC P B ops st0 nx cs tmF nbF mbF l tm nb mb →
    (∀ t, (∀ p ∈ l, p.2.dst ≠ some t) → lkT tmF t = lkT tm t) ∧ (∀ n, (∀ p ∈ l, n ≠ nx + p.1) → lkB mbF n = lkB mb n) ∧
    (∀ n, (∃ p ∈ l, ∃ j, lkC cs p.1 = some j ∧ n = nx + j) → (∀ p ∈ l, ∀ q ∈ l, ∀ j, lkC cs p.1 = some j → nx + j = nx + q.1 → q.1 < p.1) → lkB nbF n = none) ∧
    (∀ n, (∀ p ∈ l, ∀ j, lkC cs p.1 = some j → n ≠ nx + j) → lkB mb n = lkB nb n → lkB nbF n = lkB mbF n) ∧
    ∀ p ∈ l, ∃ tmi v x rq, HG P B ops p.2 tmi (lkB st0) rq (nx + p.1) v x ∧ (∀ d, p.2.dst = some d → lkT tmF d = v) ∧ (lkB mb (nx + p.1) = none → lkB mbF (nx + p.1) = x) ∧
      (∀ t, ∀ q ∈ l, q.1 < p.1 → q.2.dst = some t → tmi t = lkT tmF t) ∧ (∀ t, (∀ q ∈ l, q.1 < p.1 → q.2.dst ≠ some t) → tmi t = lkT tm t) ∧ rqOk cs nx p.1 rq ∧ (∀ z, rq = some z → lkB mbF z.1 = some z.2)
  | [], tm, nb, mb, _, _, h => by
    obtain ⟨rfl, rfl, rfl⟩ := h
    exact ⟨fun _ _ => rfl, fun _ _ => rfl, (fun n h _ => by obtain ⟨p, hp, _⟩ := h; cases hp), (fun n _ h => h.symm), (fun p hp => by cases hp)⟩
  | (i, o) :: l, tm, nb, mb, hi, hsub, h => by
    simp only [incr, Bool.and_eq_true] at hi
    obtain ⟨v, x, rq, hn, h1, hrq, h2⟩ := h
    have hlt : ∀ p ∈ l, i < p.1 := fun p hp => by have := List.all_eq_true.1 hi.1 p hp; simp at this; exact this.1
    have hne : ∀ p ∈ l, ∀ d, o.dst = some d → p.2.dst ≠ some d := fun p hp d hd => by
      have := List.all_eq_true.1 hi.1 p hp
      rw [hd] at this
      simp at this
      exact this.2
    have hsub' : ∀ n q, lkB (addN (nx + i) x (delO rq nb)) n = some q → lkB (addN (nx + i) x mb) n = some q := fun n q hq => by
      rw [lkB_addN] at hq ⊢
      split at hq
      · rename_i hc; rw [if_pos hc]; exact hq
      · rename_i hc
        rw [if_neg hc]
        rw [lkB_delO] at hq
        split at hq
        · cases hq
        · exact hsub n q hq
    obtain ⟨f1, f2, f2a, f2b, f3⟩ := hrunC_facts hcs l _ _ _ hi.2 hsub' h2
    have hkeep : ∀ n, (∀ p ∈ l, n ≠ nx + p.1) → lkB mbF n = lkB (addN (nx + i) x mb) n := f2
    refine ⟨fun t ht => ?_, fun n hn => ?_, fun n hex hord => ?_, fun n hno hmn => ?_, fun p hp => ?_⟩
    · rw [f1 t (fun p hp => ht p (by simp [hp])), lkT_put, if_neg (ht (i, o) (by simp))]
    · rw [f2 n (fun p hp => hn p (by simp [hp])), lkB_addN, if_neg (fun e => hn (i, o) (by simp) e.1)]
    · obtain ⟨p, hp, j, hj, rfl⟩ := hex
      by_cases hin : ∃ p ∈ l, ∃ j', lkC cs p.1 = some j' ∧ nx + j = nx + j'
      · exact f2a _ hin (fun p hp q hq => hord p (by simp [hp]) q (by simp [hq]))
      · have hpi : p = (i, o) := by
          rcases List.mem_cons.1 hp with e | hp
          · exact e
          · exact (hin ⟨p, hp, j, hj, rfl⟩).elim
        subst hpi
        have hji := hcs _ (lkC_mem hj)
        simp only at hji hj
        -- the row is gone and is not made again
        have hgo : ∀ (l : List (Nat × Oper)) (tm : List (Nat × V)) (nb mb : List (Nat × Blk)), HRunC P B ops st0 nx cs tmF nbF mbF l tm nb mb → (∀ p ∈ l, nx + j ≠ nx + p.1) → lkB nb (nx + j) = none → lkB nbF (nx + j) = none := by
          intro l
          induction l with
          | nil => rintro tm nb mb ⟨_, rfl, _⟩ _ h; exact h
          | cons q l ih =>
            rintro tm nb mb ⟨v, x, rq, _, _, _, h⟩ hne h0
            refine ih _ _ _ h (fun p hp => hne p (by simp [hp])) ?_
            rw [lkB_addN, if_neg (fun e => hne q (by simp) e.1), lkB_delO, h0]
            split <;> rfl
        refine hgo l _ _ _ h2 (fun q hq e => by have := hlt q hq; omega) ?_
        rw [lkB_addN, if_neg (fun e => by omega), lkB_delO, if_pos ((rqOk_map hrq _).2 ⟨j, hj, rfl⟩)]
    · refine f2b n (fun p hp => hno p (by simp [hp])) ?_
      have hni : ¬ rq.map (·.1) = some n := fun e => by
        obtain ⟨j, h1, h2⟩ := (rqOk_map hrq n).1 e
        exact hno (i, o) (by simp) j h1 h2
      rw [lkB_addN, lkB_addN, lkB_delO, if_neg hni, hmn]
    · rcases List.mem_cons.1 hp with rfl | hp'
      · refine ⟨lkT tm, v, x, rq, h1, fun d hd => ?_, fun hnb => ?_, fun t q hq hlt' => ?_, fun t _ => rfl, hrq, fun z hz => ?_⟩
        · rw [f1 d (fun p hp => hne p hp d hd), lkT_put, if_pos hd]
        · rw [f2 (nx + i) (fun p hp e => by have := hlt p hp; omega), lkB_addN]
          cases x with
          | none => simp [hnb]
          | some b => simp
        · rcases List.mem_cons.1 hq with rfl | hq
          · exact (Nat.lt_irrefl _ hlt').elim
          · have := hlt q hq; omega
        · obtain ⟨j, hj1, hj2⟩ := (rqOk_map hrq z.1).1 (by rw [hz]; rfl)
          have hji := hcs _ (lkC_mem hj1)
          simp only at hji
          rw [f2 z.1 (fun p hp e => by have := hlt p hp; omega), lkB_addN, if_neg (fun e => by omega)]
          exact hsub _ _ (hn z hz)
      · obtain ⟨tmi, v', x', rq', g1, g2, g3, g4, g5, g6, g7⟩ := f3 p hp'
        have hip := hlt p hp'
        refine ⟨tmi, v', x', rq', g1, g2, fun hnb => g3 ?_, fun t q hq hql hqt => ?_, fun t ht => ?_, g6, g7⟩
        · rw [lkB_addN, if_neg (by rintro ⟨e, _⟩; omega)]; exact hnb
        · rcases List.mem_cons.1 hq with rfl | hq
          · have hqt' : o.dst = some t := hqt
            rw [g5 t (fun r hr _ => hne r hr t hqt'), f1 t (fun r hr => hne r hr t hqt')]
          · exact g4 t q hq hql hqt
        · rw [g5 t (fun q hq hql => ht q (by simp [hq]) hql), lkT_put, if_neg (ht (i, o) (by simp) hip)]
def takeOk (l : List Oper) (hd : List Nat) (cs : List (Nat × Nat)) : Bool :=
  cs.all (fun c => decide (c.2 < c.1) && hd.contains c.1 && reachB .any l.toArray l.length c.1 c.2) && decide (cs.map (·.1)).Nodup && decide (cs.map (·.2)).Nodup
end
end Go.Proofs.Ythidfoohhhkobaa


namespace Go.Proofs.Ythidfoohhhkobaa
set_option linter.unusedVariables false
set_option linter.unusedSimpArgs false
open Go.RowKit
section
variable {P : Program} {B : Base} {T : Tab}
def sgC (cs : List (Nat × Nat)) (nx : Nat) (mb st0 : List (Nat × Blk)) (listed : Array Bool) (n : Nat) : Option Blk :=
  if nx ≤ n then (if listed.getD (n - nx) false = true then (if (cs.any fun c => decide (n = nx + c.2) && listed.getD c.1 false) = true then none else lkB mb n) else none) else lkB st0 n
theorem wpAny_headsC {l : List Oper} {hd tail : List Nat} {cs : List (Nat × Nat)} {Q : Exit → Act → World → Prop} {tm0 tmF : List (Nat × V)} {st0 nbF mbF : List (Nat × Blk)} {nx : Nat} (hok : drawOk l hd tail = true) (hck : takeOk l hd cs = true) (hrun : HRunC P B l.toArray st0 nx cs tmF nbF mbF (pickOps l hd) tm0 [] []) (hN : (l.all (opOk B.N)) = true)
    (hst0 : ∀ n, nx ≤ n → lkB st0 n = none)
    (hQ : ∀ E a, Gam P B ⟨tmF, nbF ++ st0, nx + l.length⟩ E a → wpListIn (fen B.r) 0 P l.toArray Q ((pickOps l tail).map (·.2)) a E.w) :
    ∀ (F : Nat) (listed : Array Bool) (E : Env) (a : Act), GInv .any l.toArray listed → (∀ t ∈ tail, listed.getD t false = false) → hd.countP (fun i => !listed.getD i false) = F →
      GamS P B (sgC cs nx mbF st0 listed) (fun n => nx ≤ n ∧ (listed.getD (n - nx) false = true → lkB mbF n = none)) E →
      GamT B (fun t => if ((pickOps l hd).any fun p => p.2.dst == some t && listed.getD p.1 false) = true then lkT tmF t else lkT tm0 t) E a → wpAnyIn (fen B.r) 0 P .any l.toArray Q (F + tail.length) listed a E.w := by
  simp only [drawOk, Bool.and_eq_true] at hok
  obtain ⟨⟨⟨⟨⟨⟨⟨⟨⟨hsink, htl⟩, hpart⟩, hlt⟩, hnd⟩, hedge⟩, hincr⟩, hdep⟩, hseq⟩, _⟩ := hok
  simp only [takeOk, Bool.and_eq_true, decide_eq_true_eq] at hck
  obtain ⟨⟨hc1, hc2⟩, hc3⟩ := hck
  have hcs : ∀ c ∈ cs, c.2 < c.1 ∧ c.1 ∈ hd ∧ reachB .any l.toArray l.length c.1 c.2 = true := fun c hc => by
    have := List.all_eq_true.1 hc1 c hc
    simp only [Bool.and_eq_true, decide_eq_true_eq] at this
    exact ⟨this.1.1, by simpa using this.1.2, this.2⟩
  obtain ⟨f1, f2, f2a, f2b, f3⟩ := hrunC_facts (fun c hc => (hcs c hc).1) _ _ _ _ hincr (fun n q h => h) hrun
  have hnd' : hd.Nodup := by simpa using hnd
  have htl' : ∀ t ∈ tail, hd.contains t = false := fun t ht => by have := List.all_eq_true.1 htl t ht; simpa using this
  have hltl : ∀ i ∈ hd, i < l.length := fun i hi => by have := List.all_eq_true.1 hlt i hi; simpa using this
  intro F
  induction F with
  | zero =>
    intro listed E a inv hT hcnt hS hGT
    have hall : ∀ i ∈ hd, listed.getD i false = true := fun i hi => by
      have := List.countP_eq_zero.1 hcnt i hi
      simpa using this
    have hsz : listed.size = l.length := by rw [inv.size]; simp
    have hcan : listed = canonH l.length hd := by
      refine Array.ext_getElem? fun i => ?_
      have hcs := (foldl_canon hd (Array.replicate l.length false) i)
      have hcsz : (canonH l.length hd).size = l.length := by unfold canonH; rw [hcs.1]; simp
      by_cases hi : i < l.length
      · have e1 : listed[i]? = some (listed.getD i false) := by simp [Array.getD_eq_getD_getElem?, hsz, hi]
        have e2 : (canonH l.length hd)[i]? = some ((canonH l.length hd).getD i false) := by simp [Array.getD_eq_getD_getElem?, hcsz, hi]
        rw [e1, e2]
        congr 1
        unfold canonH
        rw [hcs.2]
        rw [getD_replicate_false]
        simp only [Array.size_replicate, Bool.false_or]
        by_cases hh : hd.contains i = true
        · rw [hh, hall i (by simpa using hh)]; simp [hi]
        · have := List.all_eq_true.1 hpart i (List.mem_range.2 hi)
          simp only [Bool.or_eq_true] at this
          rcases this with h | h
          · exact (hh h).elim
          · rw [hT i (by simpa using h)]; simp only [Bool.not_eq_true] at hh; rw [hh]; rfl
      · rw [Array.getElem?_eq_none (by omega), Array.getElem?_eq_none (by omega)]
    rw [Nat.zero_add]
    refine wpAnyIn_of_seqT tail listed a E.w (by rw [hcan]; exact hseq) (hQ E a ⟨hS.congr (fun n => ?_) (fun n hn => ?_), ⟨fun t => ?_, hGT.defers, hGT.size⟩⟩)
    · -- the blocks
      have hap : lkB (nbF ++ st0) n = match lkB nbF n with | some b => some b | none => lkB st0 n := by
        generalize nbF = nb
        induction nb with
        | nil => rfl
        | cons p nb ih =>
          obtain ⟨k, b⟩ := p
          simp only [List.cons_append, lkB]
          split
          · rfl
          · exact ih
      have hmb : ∀ m, (¬ ∃ p ∈ pickOps l hd, m = nx + p.1) → lkB mbF m = none := fun m hm => by
        rw [f2 m (fun p hp e => hm ⟨p, hp, e⟩)]; rfl
      show lkB (nbF ++ st0) n = _
      rw [hap]
      unfold sgC
      by_cases htk : ∃ p ∈ pickOps l hd, ∃ j, lkC cs p.1 = some j ∧ n = nx + j
      · have hno := f2a n htk (fun p hp q hq j hj e => by have := (hcs _ (lkC_mem hj)).1; simp only at this; omega)
        obtain ⟨p, hp, j, hj, rfl⟩ := htk
        rw [hno, if_pos (by omega)]
        have : (cs.any fun c => decide (nx + j = nx + c.2) && listed.getD c.1 false) = true :=
          List.any_eq_true.2 ⟨_, lkC_mem hj, by simp [hall p.1 (pickOps_mem.1 hp).1]⟩
        rw [if_pos this, hst0 _ (by omega), ite_self]
      · have hno := f2b n (fun p hp j hj e => htk ⟨p, hp, j, hj, e⟩) rfl
        rw [hno]
        by_cases hn : nx ≤ n
        · rw [if_pos hn]
          have hany : ¬ (cs.any fun c => decide (n = nx + c.2) && listed.getD c.1 false) = true := fun h => by
            obtain ⟨c, hc, h⟩ := List.any_eq_true.1 h
            simp only [Bool.and_eq_true, decide_eq_true_eq] at h
            have hch := (hcs c hc).2.1
            exact htk ⟨(c.1, l[c.1]'(hltl _ hch)), pickOps_mem.2 ⟨hch, by simp [hltl _ hch]⟩, c.2, lkC_of_mem hc2 (by cases c; exact hc), h.1⟩
          rw [if_neg hany]
          by_cases hh : hd.contains (n - nx) = true
          · rw [if_pos (hall _ (by simpa using hh)), hst0 n hn]; cases lkB mbF n <;> rfl
          · have : lkB mbF n = none := hmb n (fun ⟨p, hp, e⟩ => hh (by
              have := (pickOps_mem.1 hp).1
              rw [e, Nat.add_sub_cancel_left]; simpa using this))
            rw [this, hst0 n hn]; simp
        · rw [if_neg hn]
          have : lkB mbF n = none := hmb n (fun ⟨p, hp, e⟩ => by omega)
          rw [this]
    · have hn' : nx + l.length ≤ n := hn
      refine ⟨by omega, fun h => ?_⟩
      rw [show listed.getD (n - nx) false = false by
        simp [Array.getD_eq_getD_getElem?, Array.getElem?_eq_none (show listed.size ≤ n - nx by omega)]] at h
      cases h
    · have := hGT.tm t
      show RV E (lkT tmF t) _
      by_cases hw : ((pickOps l hd).any fun p => p.2.dst == some t && listed.getD p.1 false) = true
      · rw [if_pos hw] at this; exact this
      · rw [if_neg hw] at this
        rw [f1 t (fun p hp e => hw (List.any_eq_true.2 ⟨p, hp, by simp [e, hall p.1 (pickOps_mem.1 hp).1]⟩))]
        exact this
  | succ F ih =>
    intro listed E a inv hT hcnt hS hGT
    have hsz : listed.size = l.length := by rw [inv.size]; simp
    rw [show F + 1 + tail.length = (F + tail.length) + 1 by omega]
    obtain ⟨k, hk, hku⟩ : ∃ k, k ∈ hd ∧ listed.getD k false = false := by
      have : 0 < hd.countP (fun i => !listed.getD i false) := by omega
      obtain ⟨k, h1, h2⟩ := List.countP_pos_iff.1 this
      exact ⟨k, h1, by simpa using h2⟩
    have hkl : k < l.length := hltl k hk
    have hku' : listed.getD k true = false := getD_in (by omega) hku
    refine ⟨fun hr => ?_, fun i hi => ?_⟩
    · obtain ⟨m, ⟨hm1, hm2⟩, hm3⟩ := exists_min (p := fun m => m < l.length ∧ listed.getD m false = false) ⟨k, hkl, hku⟩
      have : m ∈ Region.ready .any l.toArray listed := by
        refine mem_ready.2 ⟨getD_in (by omega) hm2, l[m], by simp [hm1], fun e he hb => ?_⟩
        have h1 := List.all_eq_true.1 hedge m (List.mem_range.2 hm1)
        rw [List.getElem?_eq_getElem hm1] at h1
        have h2 := List.all_eq_true.1 h1 e (by simpa using he)
        rw [hb] at h2
        simp at h2
        cases hc : listed.getD e.on false with
        | true => rfl
        | false => exact (hm3 e.on h2 ⟨by omega, hc⟩).elim
      rw [hr] at this
      cases this
    · have hih := sink_spec hsink inv (i := k) (by simpa using hkl) (by simpa using hk) hku' hi
      have hi' : i ∈ hd := by simpa using hih
      obtain ⟨hiun, o, ho, hafter⟩ := mem_ready.1 hi
      have hol : l[i]? = some o := by simpa using ho
      have hil : i < l.length := (List.getElem?_eq_some_iff.1 hol).1
      have hiun' := getD_both hiun
      have hmem : (i, o) ∈ pickOps l hd := pickOps_mem.2 ⟨hi', hol⟩
      obtain ⟨tmi, v, x, rq, g1, g2, g3, g4, g5, g6, g7⟩ := f3 (i, o) hmem
      simp only at g1 g2 g3 g4 g5 g6
      have g3 := g3 rfl
      have hopk := List.all_eq_true.1 hN o (List.mem_of_getElem? hol)
      have hbelow : ∀ j, reachB .any l.toArray l.length i j = true → listed.getD j false = true := fun j h =>
        reach_listed inv _ _ _ h (fun o' ho' e he hb => by
          have : o' = o := Option.some.inj (ho'.symm.trans ho)
          subst this
          exact hafter e he hb)
      have hclosed : ∀ q j, reachB .any l.toArray l.length q j = true → listed.getD q false = true → listed.getD j false = true := fun q j h hq =>
        reach_listed inv _ _ _ h (fun o' ho' e he hb => inv.closed q o' ho' hq e he hb)
      have hag : ∀ t ∈ o.looksAt l.toArray, (if ((pickOps l hd).any fun p => p.2.dst == some t && listed.getD p.1 false) = true then lkT tmF t else lkT tm0 t) = tmi t := fun t ht => by
        have hd1 := List.all_eq_true.1 hdep (i, o) hmem
        have hd2 := List.all_eq_true.1 hd1 t ht
        by_cases hw : ((pickOps l hd).any fun p => p.2.dst == some t && listed.getD p.1 false) = true
        · rw [if_pos hw]
          obtain ⟨q, hq, hq2⟩ := List.any_eq_true.1 hw
          simp only [Bool.and_eq_true, beq_iff_eq] at hq2
          have hd3 := List.all_eq_true.1 hd2 q hq
          simp only [Bool.or_eq_true, bne_iff_ne, ne_eq] at hd3
          rcases hd3 with h | h
          · exact (h hq2.1).elim
          · by_cases hlt2 : q.1 < i
            · exact (g4 t q hq hlt2 hq2.1).symm
            · rw [if_neg hlt2] at h
              simp only [Bool.and_eq_true, decide_eq_true_eq] at h
              have := hclosed _ _ h.2 hq2.2
              rw [hiun'] at this
              cases this
        · rw [if_neg hw]
          refine (g5 t (fun q hq hql hqt => hw (List.any_eq_true.2 ⟨q, hq, ?_⟩))).symm
          have hd3 := List.all_eq_true.1 hd2 q hq
          simp only [Bool.or_eq_true, bne_iff_ne, ne_eq] at hd3
          rcases hd3 with h | h
          · exact (h hqt).elim
          · rw [if_pos hql] at h
            have := hbelow _ h
            simp [hqt, this]
      have hst : ∀ n b, lkB st0 n = some b → sgC cs nx mbF st0 listed n = some b := fun n b hb => by
        unfold sgC
        by_cases hn : nx ≤ n
        · rw [hst0 n hn] at hb; cases hb
        · rw [if_neg hn]; exact hb
      have hrqs : ∀ p, rq = some p → sgC cs nx mbF st0 listed p.1 = some p.2 := fun p hp => by
        obtain ⟨j, hj, hpj⟩ := (rqOk_map g6 p.1).1 (by rw [hp]; rfl)
        have hcj := lkC_mem hj
        obtain ⟨hji, _, hr⟩ := hcs _ hcj
        simp only at hji hr
        unfold sgC
        rw [if_pos (by omega), hpj, Nat.add_sub_cancel_left, if_pos (hbelow j hr), if_neg, ← hpj]
        · exact g7 p hp
        · intro h
          obtain ⟨c, hc, h⟩ := List.any_eq_true.1 h
          simp only [Bool.and_eq_true, decide_eq_true_eq] at h
          have hc2' : c.2 = j := by omega
          have hci : c = (i, j) := by
            have hp2 := List.nodup_iff_pairwise_ne.1 hc3
            rw [List.pairwise_map, List.pairwise_iff_getElem] at hp2
            obtain ⟨a1, ha1, e1⟩ := List.getElem_of_mem hc
            obtain ⟨a2, ha2, e2⟩ := List.getElem_of_mem hcj
            rcases Nat.lt_trichotomy a1 a2 with h3 | h3 | h3
            · exact (hp2 a1 a2 ha1 ha2 h3 (by rw [e1, e2]; exact hc2')).elim
            · subst h3; rw [← e1, e2]
            · exact (hp2 a2 a1 ha2 ha1 h3 (by rw [e1, e2]; exact hc2'.symm)).elim
          rw [hci] at h
          simp only at h
          rw [hiun'] at h
          cases h.2
      obtain ⟨h1, h2⟩ := g1 _ _ _ E a hS hGT ⟨by omega, fun h => by rw [Nat.add_sub_cancel_left, hiun'] at h; cases h⟩ hst hrqs hag
      have inv2 := inv.set hi
      have hself : (listed.setIfInBounds i true).getD i false = true := by simp [hsz, hil]
      have hoth : ∀ j, j ≠ i → (listed.setIfInBounds i true).getD j false = listed.getD j false := fun j hj => getD_set_ne false (Ne.symm hj)
      have hT2 : ∀ t ∈ tail, (listed.setIfInBounds i true).getD t false = false := fun t ht => by
        rw [hoth t (fun e => by have := htl' t ht; rw [e] at this; rw [this] at hih; cases hih)]; exact hT t ht
      have hcnt2 : hd.countP (fun j => !(listed.setIfInBounds i true).getD j false) = F := by
        have := countP_set hnd' hi' (f := fun j => !listed.getD j false) (g := fun j => !(listed.setIfInBounds i true).getD j false) (by simp [hiun']) (by simp [hself]) (fun j hj => by rw [hoth j hj])
        omega
      -- nobody has taken what i makes
      have hnt : ∀ c ∈ cs, c.2 = i → listed.getD c.1 false = false := fun c hc e => by
        obtain ⟨_, _, hr⟩ := hcs c hc
        cases hq : listed.getD c.1 false with
        | false => rfl
        | true =>
          have := hclosed _ _ hr hq
          rw [e, hiun'] at this
          cases this
      have hσ2 : ∀ n, sgC cs nx mbF st0 (listed.setIfInBounds i true) n = if n = nx + i then x else if rq.map (·.1) = some n then none else sgC cs nx mbF st0 listed n := fun n => by
        by_cases hn : n = nx + i
        · subst hn
          rw [if_pos rfl]
          unfold sgC
          rw [if_pos (by omega), Nat.add_sub_cancel_left, if_pos hself, if_neg, g3]
          intro h
          obtain ⟨c, hc, h⟩ := List.any_eq_true.1 h
          simp only [Bool.and_eq_true, decide_eq_true_eq] at h
          have hci : c.2 = i := by omega
          have := (hcs c hc).1
          rw [hoth c.1 (by omega), hnt c hc hci] at h
          cases h.2
        · rw [if_neg hn]
          by_cases hrn : rq.map (·.1) = some n
          · rw [if_pos hrn]
            obtain ⟨j, hj, rfl⟩ := (rqOk_map g6 n).1 hrn
            unfold sgC
            rw [if_pos (by omega)]
            have : (cs.any fun c => decide (nx + j = nx + c.2) && (listed.setIfInBounds i true).getD c.1 false) = true := List.any_eq_true.2 ⟨(i, j), lkC_mem hj, by simp [hself]⟩
            rw [if_pos this]
            split <;> rfl
          · rw [if_neg hrn]
            unfold sgC
            by_cases hn2 : nx ≤ n
            · rw [if_pos hn2, if_pos hn2, hoth (n - nx) (by omega)]
              have : (cs.any fun c => decide (n = nx + c.2) && (listed.setIfInBounds i true).getD c.1 false) = (cs.any fun c => decide (n = nx + c.2) && listed.getD c.1 false) := by
                rw [Bool.eq_iff_iff, List.any_eq_true, List.any_eq_true]
                constructor
                · rintro ⟨c, hc, h⟩
                  simp only [Bool.and_eq_true, decide_eq_true_eq] at h
                  by_cases hci : c.1 = i
                  · refine (hrn ((rqOk_map g6 n).2 ⟨c.2, ?_, h.1⟩)).elim
                    exact lkC_of_mem hc2 (by rw [← hci]; cases c; exact hc)
                  · rw [hoth _ hci] at h
                    exact ⟨c, hc, by simp [h.1, h.2]⟩
                · rintro ⟨c, hc, h⟩
                  simp only [Bool.and_eq_true, decide_eq_true_eq] at h
                  exact ⟨c, hc, by simp only [Bool.and_eq_true, decide_eq_true_eq]; exact ⟨h.1, getD_set_true h.2⟩⟩
              rw [this]
            · rw [if_neg hn2, if_neg hn2]
      have hfr2 : ∀ n, (nx ≤ n ∧ ((listed.setIfInBounds i true).getD (n - nx) false = true → lkB mbF n = none)) → (nx ≤ n ∧ (listed.getD (n - nx) false = true → lkB mbF n = none)) ∧ (x.isSome = true → n ≠ nx + i) := fun n hn => by
        refine ⟨⟨hn.1, fun h => hn.2 (getD_set_true h)⟩, fun hx e => ?_⟩
        subst e
        have := hn.2 (by rw [Nat.add_sub_cancel_left]; exact hself)
        rw [g3] at this
        rw [this] at hx
        cases hx
      have htm2 : ∀ t, (if ((pickOps l hd).any fun p => p.2.dst == some t && (listed.setIfInBounds i true).getD p.1 false) = true then lkT tmF t else lkT tm0 t) = if o.dst = some t then v else (if ((pickOps l hd).any fun p => p.2.dst == some t && listed.getD p.1 false) = true then lkT tmF t else lkT tm0 t) := fun t => by
        by_cases hd1 : o.dst = some t
        · rw [if_pos hd1, if_pos (List.any_eq_true.2 ⟨(i, o), hmem, by simp [hd1, hself]⟩), g2 t hd1]
        · rw [if_neg hd1]
          have : ((pickOps l hd).any fun p => p.2.dst == some t && (listed.setIfInBounds i true).getD p.1 false) = ((pickOps l hd).any fun p => p.2.dst == some t && listed.getD p.1 false) := by
            rw [Bool.eq_iff_iff, List.any_eq_true, List.any_eq_true]
            constructor
            · rintro ⟨p, hp, h⟩
              simp only [Bool.and_eq_true, beq_iff_eq] at h
              have hpi : p.1 ≠ i := fun e => by
                have := (pickOps_mem.1 hp).2
                rw [e, hol] at this
                injection this with this
                rw [← this] at h
                exact hd1 h.1
              rw [hoth p.1 hpi] at h
              exact ⟨p, hp, by simp [h.1, h.2]⟩
            · rintro ⟨p, hp, h⟩
              simp only [Bool.and_eq_true, beq_iff_eq] at h
              exact ⟨p, hp, by simp [h.1, getD_set_true h.2]⟩
          rw [this]
      have hdN : ∀ t, o.dst = some t → t < B.N := fun t e => by
        have : (match o.dst with | some d => decide (d < B.N) | none => true) = true := by
          simp only [opOk, Bool.and_eq_true] at hopk; exact hopk.2
        rw [e] at this
        simpa using this
      unfold wpOpIn
      simp only [ho]
      cases hw : Region.wanted o (yielded l.toArray a.tmps) with
      | true =>
        rw [if_pos rfl]
        refine (h1 hw).wpIn ?_
        rintro u w' ⟨E', rfl, hS', hext, hdp, hv⟩
        exact ih _ E' _ inv2 hT2 hcnt2 (hS'.congr hσ2 hfr2) ((hGT.ext hext hdp).putF (fun t e => ⟨hv, hdN t e⟩) htm2)
      | false =>
        rw [if_neg (by simp)]
        obtain ⟨rfl, rfl, hv⟩ := h2 hw
        have hσn : ∀ n, (if n = nx + i then none else if (none : Option (Nat × Blk)).map (·.1) = some n then none else sgC cs nx mbF st0 listed n) = sgC cs nx mbF st0 listed n := fun n => by
          by_cases hn : n = nx + i
          · subst hn
            unfold sgC
            rw [if_pos rfl, if_pos (by omega), Nat.add_sub_cancel_left, hiun', if_neg (by simp)]
          · rw [if_neg hn, if_neg (by simp)]
        exact ⟨fun _ _ => trivial, ih _ E _ inv2 hT2 hcnt2 (hS.congr (fun n => (hσ2 n).trans (hσn n)) (fun n hn => (hfr2 n hn).1)) (hGT.putF (fun t e => ⟨hv, hdN t e⟩) htm2)⟩
def isTC : Op → Bool
  | .call ⟨.builtin .append, _, _⟩ => false
  | op => isT op
def headC : Nat → List Oper → List Nat
  | _, [] => []
  | k, o :: l => match isTC o.op with
    | true => headC (k + 1) l
    | false => k :: headC (k + 1) l
def tailC : Nat → List Oper → List Nat
  | _, [] => []
  | k, o :: l => match isTC o.op with
    | true => k :: tailC (k + 1) l
    | false => tailC (k + 1) l
def whoMakes (t : Tmp) : Nat → List Oper → Option Nat
  | _, [] => none
  | k, o :: l => if o.dst = some t then some k else whoMakes t (k + 1) l
def takes (all : List Oper) : Nat → List Oper → List (Nat × Nat)
  | _, [] => []
  | k, o :: l => match o.op with
    | .call ⟨.builtin .append, asA, _⟩ => match asA.toList with
      | .tmp t :: _ => match whoMakes t 0 all with
        | some j => (k, j) :: takes all (k + 1) l
        | none => takes all (k + 1) l
      | _ => takes all (k + 1) l
    | _ => takes all (k + 1) l
theorem aw_regionC {id : Nat} {l : List Oper} {s : St} {Q : AQ} (hd tail : List Nat) (cs : List (Nat × Nat)) (hT : TabOk P T) (hm : P.follows .mixedOrders = true) (hl : (l.all (opOk B.N)) = true) (hok : drawOk l hd tail = true) (hck : takeOk l hd cs = true)
    (h : hwpC P T l.toArray s.st s.nx cs (pickOps l hd) s.tm [] (fun tm nb => rwp P B T l.toArray ((pickOps l tail).map (·.2)) ⟨tm, nb ++ s.st, s.nx + l.length⟩ (Q .normal))) : AW P B (.region id l.toArray true) Q ⟨⟩ s := fun E a hG => by
  have hops0 : ∀ o ∈ l.toArray.toList, opOk B.N o = true := fun o ho => List.all_eq_true.1 hl o (by simpa using ho)
  have hc : ((pickOps l hd).all fun p => p.2.op.operands.toList.all (constOk B.N)) = true := List.all_eq_true.2 fun p hp => by
    have := List.all_eq_true.1 hl p.2 (List.mem_of_getElem? (pickOps_mem.1 hp).2)
    simp only [opOk, Bool.and_eq_true] at this
    exact this.1
  obtain ⟨tmF, nbF, mbF, hK, hrun⟩ := hwpC_ok (B := B) hT hops0 _ _ _ [] hc h
  have hG' := gam_drew hG
  have hst0 : ∀ n, s.nx ≤ n → lkB s.st n = none := fun n hn => hG.1.none_of_fresh hn
  refine wpIn_region_any hm ?_
  have htail : ((pickOps l tail).map (·.2)).all (opOk B.N) = true := List.all_eq_true.2 fun o ho => by
    obtain ⟨p, hp, rfl⟩ := List.mem_map.1 ho
    exact List.all_eq_true.1 hl p.2 (List.mem_of_getElem? (pickOps_mem.1 hp).2)
  have := wpAny_headsC (Q := AQQ P B Q) hok hck hrun hl hst0 (fun E a hG => rwp_list hT hops0 _ _ _ htail hK (fun s' hs E a hG => ⟨E, s', rfl, hG, hs⟩) E a hG) hd.length (Array.replicate l.toArray.size false) ⟨E.η, E.F, { E.w with drawn := E.w.drawn + 1 }, E.dp⟩ a
    ⟨by simp, fun j oj _ hl => (by rw [getD_replicate_false] at hl; cases hl)⟩ (fun t _ => getD_replicate_false _ _) (by
      rw [List.countP_eq_length]; intro i _; rw [getD_replicate_false]; rfl)
    (hG'.1.congr (fun n => by
      unfold sgC
      rw [getD_replicate_false]
      by_cases hn : s.nx ≤ n
      · rw [if_pos hn, if_neg (by simp), hst0 n hn]
      · rw [if_neg hn]) (fun n hn => hn.1))
    ⟨fun t => by
      have : ((pickOps l hd).any fun p => p.2.dst == some t && (Array.replicate l.toArray.size false).getD p.1 false) = false := by
        rw [List.any_eq_false]; intro p _; rw [getD_replicate_false]; simp
      rw [this, if_neg (by simp)]
      exact hG'.2.tm t, hG'.2.defers, hG'.2.size⟩
  have hlen : hd.length + tail.length = l.length := by
    simp only [drawOk, Bool.and_eq_true, decide_eq_true_eq] at hok
    exact hok.2
  rw [hlen] at this
  simpa using this
theorem aw_drawnC {id : Nat} {ops : Array Oper} {s : St} {Q : AQ} (hT : TabOk P T) (hm : P.follows .mixedOrders = true) (hl : (ops.toList.all (opOk B.N)) = true)
    (hok : (drawOk ops.toList (headC 0 ops.toList) (tailC 0 ops.toList) && takeOk ops.toList (headC 0 ops.toList) (takes ops.toList 0 ops.toList)) = true)
    (h : hwpC P T ops s.st s.nx (takes ops.toList 0 ops.toList) (pickOps ops.toList (headC 0 ops.toList)) s.tm [] (fun tm nb => rwp P B T ops ((pickOps ops.toList (tailC 0 ops.toList)).map (·.2)) ⟨tm, nb ++ s.st, s.nx + ops.toList.length⟩ (Q .normal))) : AW P B (.region id ops true) Q ⟨⟩ s := by
  simp only [Bool.and_eq_true] at hok
  exact aw_regionC (l := ops.toList) _ _ _ hT hm hl hok.1 hok.2 h
end
end Go.Proofs.Ythidfoohhhkobaa


namespace Go.Proofs.Ythidfoohhhkobaa
set_option linter.unusedVariables false
set_option linter.unusedSimpArgs false
open Go.RowKit
def frz1 (n : Nat) (v : V) : V → V
  | .mo m => if m = n then v else .mo m
  | x => x
def frz2 (n : Nat) (v : V) : V → V
  | .agg cs => .agg (cs.map (frz1 n v))
  | x => frz1 n v x
def frzS (n : Nat) (v : V) : List (Nat × V) → List (Nat × V)
  | [] => []
  | (t, x) :: l => (t, frz2 n v x) :: frzS n v l
def frzK (n : Nat) (v : V) : Blk → Blk
  | .cells t cs => .cells t (cs.map (frz1 n v))
  | x => x
def frzM (n : Nat) (v : V) : List (Nat × Blk) → List (Nat × Blk)
  | [] => []
  | (t, x) :: l => (t, frzK n v x) :: frzM n v l
section
variable {P : Program} {B : Base} {s : St} {E : Env} {n : Nat} {v : V}
theorem frz1_ok (h : ∀ u, RV E (.mo n) u → RV E v u) {x : V} {u : Value} (hx : RV E x u) : RV E (frz1 n v x) u := by
  cases x <;> try exact hx
  rename_i m
  unfold frz1
  by_cases hm : m = n
  · subst hm; simp only [if_true]; exact h u hx
  · simp only [hm, if_false]; exact hx
theorem frz1s_ok (h : ∀ u, RV E (.mo n) u → RV E v u) : ∀ {xs : List V} {us : List Value}, RVL E xs us → RVL E (xs.map (frz1 n v)) us
  | [], us, k => k
  | x :: xs, us, k => by
    simp only [List.map_cons, RVL] at k ⊢
    obtain ⟨u, r, h1, h2, h3⟩ := k
    exact ⟨u, r, h1, frz1_ok h h2, frz1s_ok h h3⟩
theorem frz2_ok (h : ∀ u, RV E (.mo n) u → RV E v u) {x : V} {u : Value} (hx : RV E x u) : RV E (frz2 n v x) u := by
  cases x <;> try exact frz1_ok h hx
  simp only [frz2, RV] at hx ⊢
  obtain ⟨us, h1, h2, h3⟩ := hx
  exact ⟨us, h1, frz1s_ok h h2, h3⟩
theorem lkT_frzS (t : Nat) : ∀ l : List (Nat × V), lkT (frzS n v l) t = frz2 n v (lkT l t) ∨ (lkT l t = .any ∧ lkT (frzS n v l) t = .any)
  | [] => .inr ⟨rfl, rfl⟩
  | (u, x) :: l => by
    simp only [frzS, lkT]
    by_cases h : t = u
    · rw [if_pos h, if_pos h]; exact .inl rfl
    · rw [if_neg h, if_neg h]; exact lkT_frzS t l
theorem lkB_frzM (t : Nat) : ∀ l : List (Nat × Blk), lkB (frzM n v l) t = (lkB l t).map (frzK n v)
  | [] => rfl
  | (u, x) :: l => by
    simp only [frzM, lkB]
    by_cases h : t = u
    · rw [if_pos h, if_pos h]; rfl
    · rw [if_neg h, if_neg h]; exact lkB_frzM t l
theorem gam_frzD {el sz : Nat} {d0V : List V} {d0 : List D} {esV : List (List V)} {es : List (List D)} (hn : lkB s.st n = some (.row el sz d0V esV)) (hes : esV = es.map dV) {a : Act} (hG : Gam P B s E a) :
    ∃ E', E'.w = E.w ∧ Gam P B ⟨frzS n (.ow n sz d0 es) s.tm, setB n (.tok el sz es.length) (frzM n (.ow n sz d0 es) s.st), s.nx⟩ E' a := by
  subst hes
  obtain ⟨v, us, h1, h2, h3, h4, h5, h6, h7⟩ := hG.1.st n _ hn
  rw [List.length_map] at h2 h6
  rw [flat_dV] at h3
  let F' : Ft := ⟨fun b o => E.F.c b o ∨ (hb v = some b ∧ o < es.length * sz), E.F.m⟩
  have hle : E.F.le F' := ⟨fun _ _ h => .inl h, fun _ h => h⟩
  let E' : Env := ⟨E.η, F', E.w, E.dp⟩
  have hext : Ext E E' := ⟨fun _ _ h => h, hle, Kp.refl _ _⟩
  have hlen : us.length = es.length * sz := h2.1
  have hrow : RD F' E.w (.sl sz d0 es) v := by
    obtain ⟨a', cap, rfl, hcap⟩ := own_form h2
    simp only [RD]
    refine ⟨a', cap, rfl, by omega, by omega, ?_⟩
    rcases h2.2 with ⟨e8, h0⟩ | ⟨g, cap', cur, e8, _⟩
    · have : es = [] := List.eq_nil_of_length_eq_zero (by omega)
      rw [this]; simp [RR]
    · cases e8
      have hd : RDL F' E.w es.flatten us := RVL.to_data (E := E') (RVL.mono hext _ _ h3)
      refine RR.of_cells hd (fun e he => ?_) h5 (fun j u hj => ⟨.inr ⟨rfl, ?_⟩, ?_⟩)
      · have := h4 (dV e) (List.mem_map_of_mem he)
        simpa [dV] using this
      · have := (List.getElem?_eq_some_iff.1 hj).1
        omega
      · have := h2.cells (g := g) rfl j u hj
        rw [Addr.add_any] at this
        simpa using this
  have hmo : ∀ u, RV E' (.mo n) u → RV E' (.ow n sz d0 es) u := fun u hu => by
    simp only [RV] at hu ⊢
    have : v = u := Option.some.inj (h1.symm.trans hu.1)
    exact ⟨hu.1, by rw [← this]; exact hrow⟩
  have new : ∀ b o, F'.c b o → E.F.c b o ∨ (hb v = some b ∧ o < es.length * sz) := fun _ _ h => h
  have old : ∀ m y, lkB (setB n (.tok el sz es.length) (frzM n (.ow n sz d0 es) s.st)) m = some y → ∃ y', lkB s.st m = some y' ∧ (m ≠ n → y = frzK n (.ow n sz d0 es) y') := fun m y hy => by
    rw [lkB_setB] at hy
    by_cases hm : m = n
    · exact ⟨_, by rw [hm]; exact hn, fun h => (h hm).elim⟩
    · rw [if_neg hm, lkB_frzM] at hy
      cases h : lkB s.st m with
      | none => rw [h] at hy; cases hy
      | some y' => rw [h] at hy; exact ⟨y', rfl, fun _ => (Option.some.inj hy).symm⟩
  refine ⟨E', rfl, ⟨hG.1.os, hG.1.tape, hG.1.output, hG.1.size, hG.1.old, Ft.le_trans hG.1.F0 hle, fun b o hc => ?_, hG.1.Fm, fun m y hy => ?_, fun i j p q b' v' u hij hpi hqj hvi huj hbi => ?_, hG.1.fresh, fun D hD => ?_⟩, fun t => ?_, hG.2.defers, hG.2.size⟩
  · rcases new b o hc with hc | ⟨hc, _⟩
    · exact hG.1.Fc b o hc
    · have hok := h7 b hc
      exact ⟨hok.1.elim (fun h => .inr (.inl h)) (fun h => .inr (.inr h)), hok.2.1⟩
  · show RBk P B E' m y
    by_cases hm : m = n
    · have hy' := hy
      rw [lkB_setB, if_pos hm] at hy'
      cases hy'
      rw [hm]
      refine ⟨v, us, h1, h2, fun b hb' => ?_⟩
      have hok := h7 b hb'
      exact ⟨hok.1, hok.2.1, hok.2.2.1, fun o ho => (new b o ho).elim (fun h => (hok.2.2.2 o h).elim) (fun h => h.2)⟩
    · obtain ⟨y', hy', hyy⟩ := old m y hy
      have hyy := hyy hm
      have hk : RBk P B E' m y' := (hG.1.st m y' hy').keep (fun _ h => h) hext (Nat.le_refl _) (fun _ _ _ _ _ => rfl) (fun v' b' p' hv' hb' hok' => ⟨hok'.1, hok'.2.1, hok'.2.2.1, fun o ho => (new b' o ho).elim (hok'.2.2.2 o) (fun h => (hG.1.dist n m _ y' b' v v' (Ne.symm hm) hn hy' h1 hv' h.1 hb').elim)⟩)
      rw [hyy]
      cases y' <;> try exact hk
      obtain ⟨b, us', k1, k2, k3, k4, k5⟩ := hk
      exact ⟨b, us', k1, k2, frz1s_ok hmo k3, k4, k5⟩
  · obtain ⟨p2, hp2, _⟩ := old i p hpi
    obtain ⟨q2, hq2, _⟩ := old j q hqj
    exact hG.1.dist i j p2 q2 b' v' u hij hp2 hq2 hvi huj hbi
  · obtain ⟨d1, d2, d3, d4⟩ := hG.1.dp D hD
    refine ⟨d1, d2, d3, fun o ho => (new D o ho).elim (d4 o) (fun h => ?_)⟩
    exact (hG.1.st n _ hn).nodp h1 h.1 d1
  · show RV E' (lkT (frzS n (.ow n sz d0 es) s.tm) t) _
    rcases lkT_frzS (n := n) (v := .ow n sz d0 es) t s.tm with h | ⟨_, h⟩
    · rw [h]; exact frz2_ok hmo (RV.mono hext _ _ (hG.2.tm t))
    · rw [h]; simp only [RV]
theorem aw_frzD (n : Nat) {el sz : Nat} {d0V : List V} (d0 : List D) {esV : List (List V)} (es : List (List D)) {c : Code} {Q : AQ} (hn : lkB s.st n = some (.row el sz d0V esV)) (hes : esV = es.map dV)
    (h : AW P B c Q ⟨⟩ ⟨frzS n (.ow n sz d0 es) s.tm, setB n (.tok el sz es.length) (frzM n (.ow n sz d0 es) s.st), s.nx⟩) : AW P B c Q ⟨⟩ s :=
  aw_weak (fun _ _ hG => gam_frzD hn hes hG) h
end
end Go.Proofs.Ythidfoohhhkobaa


namespace Go.Proofs.Ythidfoohhhkobaa
set_option linter.unusedVariables false
set_option linter.unusedSimpArgs false
open Go.RowKit
theorem frz_dV (n : Nat) (v : V) (l : List D) : (dV l).map (frz1 n v) = dV l := by
  unfold dV
  rw [List.map_map]
  exact List.map_congr_left fun x _ => rfl
section
variable {P : Program} {B : Base} {T : Tab}
structure StopAt (p : Prop) : Prop where
  go : p
theorem aw_stop {id : Nat} {ops : Array Oper} {b : Bool} {s : St} {Q : AQ} (h : StopAt (AW P B (.region id ops b) Q ⟨⟩ s)) : AW P B (.region id ops b) Q ⟨⟩ s := h.go
end
end Go.Proofs.Ythidfoohhhkobaa


namespace Go.Proofs.Ythidfoohhhkobaa
set_option linter.unusedVariables false
set_option linter.unusedSimpArgs false
open Go.RowKit
section
variable {P : Program} {B : Base} {T : Tab}
end
end Go.Proofs.Ythidfoohhhkobaa


namespace Go.Proofs.Ythidfoohhhkobaa
set_option linter.unusedVariables false
set_option linter.unusedSimpArgs false
open Go.RowKit
section
variable {P : Program} {B : Base} {T : Tab}
end
end Go.Proofs.Ythidfoohhhkobaa


namespace Go.Proofs.Ythidfoohhhkobaa
set_option linter.unusedVariables false
set_option linter.unusedSimpArgs false
open Go.RowKit
section
variable {P : Program} {B : Base} {T : Tab}
end
end Go.Proofs.Ythidfoohhhkobaa


namespace Go.Proofs.Ythidfoohhhkobaa
set_option linter.unusedVariables false
set_option linter.unusedSimpArgs false
open Go.RowKit
def lessT (l1 l : List (Nat × V)) : Prop := ∀ t, lkT l1 t = lkT l t ∨ lkT l1 t = .any
def lessB (l1 l : List (Nat × Blk)) : Prop := ∀ n x, lkB l1 n = some x → lkB l n = some x
theorem lessT_refl (l : List (Nat × V)) : lessT l l := fun _ => .inl rfl
theorem lessB_refl (l : List (Nat × Blk)) : lessB l l := fun _ _ h => h
structure LessS (s s1 : St) : Prop where
  t : lessT s1.tm s.tm
  b : lessB s1.st s.st
  n : s.nx ≤ s1.nx
theorem LessS.refl (s : St) : LessS s s := ⟨lessT_refl _, lessB_refl _, Nat.le_refl _⟩
section
variable {P : Program} {B : Base} {T : Tab}
end
end Go.Proofs.Ythidfoohhhkobaa


namespace Go.Proofs.Ythidfoohhhkobaa
set_option linter.unusedVariables false
set_option linter.unusedSimpArgs false
open Go.RowKit
section
variable {P : Program} {B : Base} {T : Tab}
end
end Go.Proofs.Ythidfoohhhkobaa


namespace Go.Proofs.Ythidfoohhhkobaa
set_option linter.unusedVariables false
set_option linter.unusedSimpArgs false
open Go.RowKit
section
variable {P : Program} {B : Base} {T : Tab}
theorem leaves_ofG {fn : Func} {R : Ending → World → Prop} {σ : Nat → Option Blk} {fr : Nat → Prop} {u : FrameMode} {X : List Deferred} (hu : u ≠ .run) : ∀ (ds : List Nat) (E : Env), GamS P B σ fr E → ds.Nodup → (∀ D ∈ ds, E.dp D) → ∀ tmps,
    ∃ E', GamS P B σ fr E' ∧ Ext E E' ∧ (∀ Y, E.dp Y → Y ∉ ds → E'.dp Y) ∧ (LeavesInM Fence.wide 0 P fn tmps R X u E'.w → LeavesInM Fence.wide 0 P fn tmps R (ds.map mark ++ X) u E.w)
  | [], E, h, _, _, tmps => ⟨E, h, Ext.refl E, fun _ h _ => h, fun h => h⟩
  | D :: ds, E, h, hn, hd, tmps => by
    obtain ⟨hn1, hn2⟩ := List.nodup_cons.1 hn
    obtain ⟨E1, e1, h1, x1⟩ := h.take (hd D (by simp))
    have hd1 : ∀ X ∈ ds, E1.dp X := fun X hX => by subst e1; exact ⟨hd X (by simp [hX]), fun e => hn1 (by rw [← e]; exact hX)⟩
    obtain ⟨E2, h2, x2, k2, r2⟩ := leaves_ofG (fn := fn) (R := R) (X := X) hu ds E1 h1 hn2 hd1 tmps
    refine ⟨E2, h2, x1.trans x2, fun X hX hXn => k2 X (by subst e1; exact ⟨hX, fun e => hXn (by simp [e])⟩) (fun e => hXn (by simp [e])), fun g => ?_⟩
    refine ⟨hu, .inl ⟨D, E1.w, rfl, ?_, r2 g⟩⟩
    subst e1
    exact run_takeDeferred (h.dp D (hd D (by simp))).1
def callP (P : Program) (B : Base) (f : FuncId) (vs : List V) (ch : List PanicEntry) (s : St) (K : St → Prop) (_ : TokS K) : Prop :=
  (P.funcs[f]?).any (fun fn => fn.name != "runtime.NumGoroutine" && fn.body.isSome) = true ∧ ∀ E a us, Gam P B s E a → RVL E vs us →
    Calls P f us.toArray E.w fun e w' => ∃ E' s', e = .panicked ch ∧ E'.w = w' ∧ Gam P B s' E' a ∧ K s'
def rwpP (P : Program) (B : Base) (T : Tab) (ops : Array Oper) (ch : List PanicEntry) : List Oper → St → (St → Prop) → Prop
  | [], _, _ => False
  | [o], s, K => match o.guard, o.op with
    | none, .call ⟨.value (.func f), asA, _⟩ => callP P B f (asA.toList.map (ev (lkT s.tm))) ch s K ⟨⟩
    | none, .call ⟨.value (.tmp t), asA, _⟩ => match lkT s.tm t with
      | .d (.c (.func (.func f) fst cap)) => (fst = #[] ∧ cap = #[]) ∧ callP P B f (asA.toList.map (ev (lkT s.tm))) ch s K ⟨⟩
      | _ => False
    | _, _ => False
  | o :: o2 :: rest, s, K => match o.guard, o.op with
    | none, .call ⟨.value (.func f), asA, _⟩ => callI P B f (asA.toList.map (ev (lkT s.tm))) o.dst s (fun s' => rwpP P B T ops ch (o2 :: rest) s' K) ⟨⟩
    | _, _ => sop P T ops o s (fun s' => rwpP P B T ops ch (o2 :: rest) s' K)
theorem panic_wpIn {r : Option Nat} {o : Oper} {a : Act} {w : World} {K : Act → World → Prop} {Q : Exit → Act → World → Prop} {f : FuncId} {args : Array Value} {ch : List PanicEntry} (hop : ∀ c, o.op ≠ .defer c) (hrun : (execOp a.eval o).run P w = .ok (.enter f args) w)
    (h : Calls P f args w fun e w' => e = .panicked ch ∧ Q (.panic ch) a w') : o.wpIn (fen r) 0 P a w K Q := by
  refine ⟨fun _ _ => trivial, ?_⟩
  have he : (Oper.semAt (fen r).round a.eval o).run P w = (execOp a.eval o).run P w := by
    show (Oper.semAt r a.eval o).run P w = _
    cases r with
    | none => rfl
    | some l => rw [Oper.semAt_some l _ o hop]
  rw [he, hrun, Oper.uponIn_enter]
  refine ⟨fun h => (by cases h), ?_⟩
  show CallsIn Fence.wide 0 P _ _ _ _
  refine callsIn_wide.2 (h.mono ?_)
  rintro e w'' ⟨rfl, h2⟩
  exact h2
theorem rwpP_list (hT : TabOk P T) {ops : Array Oper} (hops : ∀ o ∈ ops.toList, opOk B.N o = true) {ch : List PanicEntry} {Q : Exit → Act → World → Prop} : ∀ (l : List Oper) (s : St) (K : St → Prop), (l.all (opOk B.N)) = true → rwpP P B T ops ch l s K → (∀ s', K s' → ∀ E a, Gam P B s' E a → Q (.panic ch) a E.w) → ∀ E a, Gam P B s E a → wpListIn (fen B.r) 0 P ops Q l a E.w
  | [], s, K, _, h, _, E, a, hG => by simp only [rwpP] at h
  | [o], s, K, ho, h, hQ, E, a, hG => by
    simp only [List.all_cons, List.all_nil, Bool.and_true] at ho
    have hev : ∀ y ∈ o.op.operands, RV E (ev (lkT s.tm) y) (a.eval y) := fun y hy => ev_ok hG.2 y (opOk_mem ho y hy)
    have fin : ∀ (f : FuncId) (asA : Array Operand) (x : Operand) (ts : Array TypeId), o.guard = none → o.op = .call ⟨.value x, asA, ts⟩ → a.eval x = .func (.func f) #[] #[] → callP P B f (asA.toList.map (ev (lkT s.tm))) ch s K ⟨⟩ → wpListIn (fen B.r) 0 P ops Q [o] a E.w := by
      intro f asA x ts hg hop hx hc
      have hw : Region.wanted o (yielded ops a.tmps) = true := by simp [Region.wanted, hg]
      unfold wpListIn
      rw [if_pos hw]
      have hmap : asA.map a.eval = (asA.toList.map a.eval).toArray := by rw [← Array.toList_map, Array.toArray_toList]
      have hrun : (execOp a.eval o).run P E.w = .ok (.enter f (asA.toList.map a.eval).toArray) E.w := by
        rw [← hmap]
        simp [execOp, hop, resolve, hx, Deferred.ofValue, invoke, run_callFunc hc.1]
      refine panic_wpIn (ch := ch) (by rw [hop]; intro c h; cases h) hrun ((hc.2 E a _ hG (RVL.of_forall _ (fun x hx => hev x (by simp only [hop, Op.operands, Call.operands]; simp [Array.mem_toList_iff.1 hx])))).mono ?_)
      rintro e w' ⟨E', s', rfl, rfl, hG', hK⟩
      exact ⟨rfl, hQ s' hK E' a hG'⟩
    unfold rwpP at h
    split at h <;> try exact h.elim
    · rename_i f asA ts hg hop
      refine fin f asA (.func f) ts hg hop ?_ h
      have := hev (.func f) (by simp [hop, Op.operands, Call.operands])
      simpa [ev, RV, RD] using this
    · rename_i t asA ts hg hop
      split at h <;> try exact h.elim
      rename_i f fst cap ht
      obtain ⟨⟨rfl, rfl⟩, h⟩ := h
      refine fin f asA (.tmp t) ts hg hop ?_ h
      have := hev (.tmp t) (by simp [hop, Op.operands, Call.operands])
      rw [show ev (lkT s.tm) (.tmp t) = lkT s.tm t from rfl, ht] at this
      simpa only [RV, RD] using this
  | o :: o2 :: l, s, K, ho, h, hQ, E, a, hG => by
    rw [List.all_cons, Bool.and_eq_true] at ho
    have plain : sop P T ops o s (fun s' => rwpP P B T ops ch (o2 :: l) s' K) → wpListIn (fen B.r) 0 P ops Q (o :: o2 :: l) a E.w := fun h => by
      obtain ⟨s', hK, hd⟩ := sop_ok (B := B) hT hops ho.1 h
      have ih := rwpP_list hT hops (o2 :: l) s' K ho.2 hK hQ
      obtain ⟨h1, h2⟩ := hd E a hG
      unfold wpListIn
      cases hw : Region.wanted o (yielded ops a.tmps) with
      | true =>
        rw [if_pos rfl]
        refine (h1 hw).wpIn fun v w' ⟨E', e, hG'⟩ => ?_
        subst e
        exact ih E' _ hG'
      | false =>
        rw [if_neg (by simp)]
        exact ⟨fun _ _ => trivial, ih E _ (h2 hw)⟩
    have hev : ∀ E a, Gam P B s E a → ∀ y ∈ o.op.operands, RV E (ev (lkT s.tm) y) (a.eval y) := fun E a hG y hy => ev_ok hG.2 y (opOk_mem ho.1 y hy)
    unfold rwpP at h
    split at h
    · rename_i f asA ts hg hop
      have hw : Region.wanted o (yielded ops a.tmps) = true := by simp [Region.wanted, hg]
      unfold wpListIn
      rw [if_pos hw]
      exact slot_ok hop (fv := .d (.c (.func (.func f) #[] #[]))) (fun E a hG => hev E a hG (.func f) (by simp [hop, Op.operands, Call.operands])) (fun E a hG => RVL.of_forall _ (fun x hx => hev E a hG x (by simp only [hop, Op.operands, Call.operands]; simp [Array.mem_toList_iff.1 hx]))) ⟨⟨rfl, rfl⟩, h⟩ (fun s' E' a' hK hG' => rwpP_list hT hops (o2 :: l) s' K ho.2 hK hQ E' a' hG') E a hG
    · exact plain h
theorem aw_regionP {id : Nat} {ops : Array Oper} {s : St} {Q : AQ} (ch : List PanicEntry) (hT : TabOk P T) (hl : (ops.toList.all (opOk B.N)) = true) (h : rwpP P B T ops ch ops.toList s (Q (.panic ch))) : AW P B (.region id ops false) Q ⟨⟩ s := by
  have : AW P B (.region id ops.toList.toArray false) Q ⟨⟩ s := fun E a hG => wpIn_region_lit (rwpP_list (ops := ops.toList.toArray) hT (fun o ho => List.all_eq_true.1 hl o (by simpa using ho)) ops.toList s _ hl (by simpa using h) (fun s' hs E a hG => ⟨E, s', rfl, hG, hs⟩) E a hG)
  simpa using this
def SpecP (P : Program) (f : FuncId) (asA : List A) (ch : List PanicEntry) : Prop :=
  ∀ (F : Ft) (w : World) (us : List Value), F.lt w → RAL F w asA us → Calls P f us.toArray w fun e w' => e = .panicked ch ∧ Below w.heap.size w w'
theorem gam_below {s : St} {E : Env} {a : Act} {w' : World} (hb : Below E.w.heap.size E.w w') (hG : Gam P B s E a) : Gam P B s ⟨E.η, E.F, w', E.dp⟩ a := by
  have hs : HStep E ⟨E.η, E.F, w', E.dp⟩ s.nx := ⟨hb, fun _ _ => rfl, ⟨Ft.le_refl _, fun _ _ h => .inl h, fun _ h => .inl h⟩, rfl⟩
  have hext := hs.ext hG.1.lt (hG.1.fresh _ (Nat.le_refl _))
  have hσn : lkB s.st s.nx = none := hG.1.none_of_fresh (Nat.le_refl _)
  exact ⟨hG.1.head (σ' := lkB s.st) (x := none) hs rfl (Nat.le_refl _) (fun n => by split <;> simp_all) hσn (fun n hn' => ⟨hn', fun h => by cases h⟩), hG.2.ext hext rfl⟩
theorem callP_fz {f : FuncId} {vs : List V} {xs : List A} {ch : List PanicEntry} {s : St} {K : St → Prop} (hS : SpecP P f xs ch) (ha : FzA P (lkB s.st) vs xs)
    (hname : (P.funcs[f]?).any (fun fn => fn.name != "runtime.NumGoroutine" && fn.body.isSome) = true) (hK : K s) : callP P B f vs ch s K ⟨⟩ := by
  refine ⟨hname, fun E a us hG hv => (hS _ E.w us (fz_lt hG.1.st hG.1.lt) (fza_ok hG.1.st ha hv)).mono ?_⟩
  rintro e w' ⟨rfl, hb⟩
  exact ⟨_, s, rfl, rfl, gam_below hb hG, hK⟩
abbrev Base.M (w : World) (F : Ft) (N b : Nat) : Base := ⟨w, fun x => x = b, F, N, fun _ => .pointer (some ⟨b, 0, none⟩), none, fun _ => False, []⟩
end
end Go.Proofs.Ythidfoohhhkobaa


namespace Go.Proofs.Ythidfoohhhkobaa
set_option linter.unusedVariables false
set_option linter.unusedSimpArgs false
open Go.RowKit
def frzPV (n : Nat) (ds : List D) : V → V
  | .ptr m off => if m = n then .d (.pt (ds.drop off)) else .ptr m off
  | x => x
def frzP (n : Nat) (ds : List D) : List (Nat × V) → List (Nat × V)
  | [] => []
  | (t, x) :: l => (t, frzPV n ds x) :: frzP n ds l
theorem lkT_frzP (n : Nat) (ds : List D) (t : Nat) : ∀ l : List (Nat × V), lkT (frzP n ds l) t = frzPV n ds (lkT l t)
  | [] => rfl
  | (u, x) :: l => by
    simp only [frzP, lkT]
    by_cases h : t = u
    · rw [if_pos h, if_pos h]
    · rw [if_neg h, if_neg h]; exact lkT_frzP n ds t l
section
variable {P : Program} {B : Base} {s : St} {E : Env} {n : Nat}
theorem gam_frzC {t : TypeId} {cs : List V} {ds : List D} (hn : lkB s.st n = some (.cells t cs)) (hcs : cs = dV ds) {a : Act} (hG : Gam P B s E a) :
    ∃ E', E'.w = E.w ∧ Gam P B ⟨frzP n ds s.tm, delB n s.st, s.nx⟩ E' a := by
  subst hcs
  obtain ⟨b0, us, h1, h2, h3, h4, h5⟩ := hG.1.st n _ hn
  let F' : Ft := ⟨fun b o => E.F.c b o ∨ b = b0, E.F.m⟩
  have hle : E.F.le F' := ⟨fun _ _ h => .inl h, fun _ h => h⟩
  let E' : Env := ⟨E.η, F', E.w, E.dp⟩
  have hext : Ext E E' := ⟨fun _ _ h => h, hle, Kp.refl _ _⟩
  have hd : RDL F' E.w ds us := RVL.to_data (E := E') (RVL.mono hext _ _ h3)
  have hpt : ∀ off u, RV E' (.ptr n off) u → RV E' (.d (.pt (ds.drop off))) u := fun off u hu => by
    simp only [RV, RD] at hu ⊢
    obtain ⟨b, k1, k2⟩ := hu
    rw [show E'.η n = E.η n from rfl, h1] at k1
    cases k1
    refine ⟨b0, off, us.drop off, k2, hd.drop off, fun u hu => h4 u (List.mem_of_mem_drop hu), fun j u hj => ⟨.inr rfl, ?_⟩⟩
    rw [List.getElem?_drop] at hj
    show E.w.cell? _ = _
    simp [World.cell?, h2, hj]
  have new : ∀ b o, F'.c b o → E.F.c b o ∨ b = b0 := fun _ _ h => h
  have old : ∀ m y, lkB (delB n s.st) m = some y → m ≠ n ∧ lkB s.st m = some y := fun m y hy => by
    rw [lkB_delB] at hy
    by_cases hm : m = n
    · rw [if_pos hm] at hy; cases hy
    · rw [if_neg hm] at hy; exact ⟨hm, hy⟩
  refine ⟨E', rfl, ⟨hG.1.os, hG.1.tape, hG.1.output, hG.1.size, hG.1.old, Ft.le_trans hG.1.F0 hle, fun b o hc => ?_, hG.1.Fm, fun m y hy => ?_, fun i j p q b' v' u hij hpi hqj hvi huj hbi => ?_, hG.1.fresh, fun D hD => ?_⟩, fun t => ?_, hG.2.defers, hG.2.size⟩
  · rcases new b o hc with hc | hc
    · exact hG.1.Fc b o hc
    · subst hc
      exact ⟨h5.1.elim (fun h => .inr (.inl h)) (fun h => .inr (.inr h)), h5.2.1⟩
  · obtain ⟨hm, hy'⟩ := old m y hy
    exact (hG.1.st m y hy').keep (fun _ h => h) hext (Nat.le_refl _) (fun _ _ _ _ _ => rfl) (fun v' b' p' hv' hb' hok' => ⟨hok'.1, hok'.2.1, hok'.2.2.1, fun o ho => (new b' o ho).elim (hok'.2.2.2 o) (fun h => (hG.1.dist n m _ y b' (.pointer (some ⟨b0, 0, none⟩)) v' (Ne.symm hm) hn hy' h1 hv' (by rw [h]; rfl) hb').elim)⟩)
  · obtain ⟨_, hp'⟩ := old i p hpi
    obtain ⟨_, hq'⟩ := old j q hqj
    exact hG.1.dist i j p q b' v' u hij hp' hq' hvi huj hbi
  · obtain ⟨d1, d2, d3, d4⟩ := hG.1.dp D hD
    refine ⟨d1, d2, d3, fun o ho => (new D o ho).elim (d4 o) (fun h => ?_)⟩
    exact (hG.1.st n _ hn).nodp h1 (b := D) (by rw [h]; rfl) d1
  · show RV E' (lkT (frzP n ds s.tm) t) _
    rw [lkT_frzP]
    have hx := RV.mono hext _ _ (hG.2.tm t)
    generalize lkT s.tm t = x at hx
    cases x <;> try exact hx
    rename_i m off
    show RV E' (if m = n then .d (.pt (ds.drop off)) else .ptr m off) _
    by_cases hm : m = n
    · subst hm; rw [if_pos rfl]; exact hpt off _ hx
    · rw [if_neg hm]; exact hx
theorem aw_frzC (n : Nat) {t : TypeId} {cs : List V} (ds : List D) {c : Code} {Q : AQ} (hn : lkB s.st n = some (.cells t cs)) (hcs : cs = dV ds) (h : AW P B c Q ⟨⟩ ⟨frzP n ds s.tm, delB n s.st, s.nx⟩) : AW P B c Q ⟨⟩ s :=
  aw_weak (fun _ _ hG => gam_frzC hn hcs hG) h
def Un (P : Program) (B : Base) (c : Code) (Q : AQ) : Nat → St → Tk c Q → Prop
  | 0, _, _ => False
  | n + 1, s, _ => AW P B c (fun e s' => match e with | .normal => Un P B c Q n s' ⟨⟩ | e => Q e s') ⟨⟩ s
theorem un_step {c : Code} {Q : AQ} {n : Nat} (hn : 0 < n) (h : AW P B c (fun e s' => match e with | .normal => Un P B c Q (n - 1) s' ⟨⟩ | e => Q e s') ⟨⟩ s) : Un P B c Q n s ⟨⟩ := by
  cases n with
  | zero => exact absurd hn (Nat.lt_irrefl 0)
  | succ n => exact h
theorem aw_unroll (n : Nat) {c : Code} {Q : AQ} (h : Un P B c Q n s ⟨⟩) : AW P B (.loop c) Q ⟨⟩ s := by
  refine aw_loop (fun n s => Un P B c Q n s ⟨⟩) n h fun n s hI E a hG => ?_
  cases n with
  | zero => exact hI.elim
  | succ n =>
    refine Code.wpIn_mono ?_ (hI E a hG)
    rintro e a' w' ⟨E', s', h1, h2, hq⟩
    refine ⟨E', s', h1, h2, ?_⟩
    cases e with
    | normal => exact ⟨n, Nat.lt_succ_self n, hq⟩
    | _ => exact hq
end
end Go.Proofs.Ythidfoohhhkobaa

