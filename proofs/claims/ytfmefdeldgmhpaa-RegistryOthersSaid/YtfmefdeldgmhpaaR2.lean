import Derived.Test.YtfmefdeldgmhpaaR1
namespace Go.Proofs.Ytfmefdeldgmhpaa
set_option linter.unusedVariables false
set_option linter.unusedSimpArgs false
open Go.RowKit
section
variable {P : Program} {T : Tab} {o : Oper} {e : Operand → V} {st : Nat → Option Blk} {nm : Nat}
/-- it hands on a value, the world stands -/
theorem HD.val {v : V} (h : ∀ (B : Base) (E : Env) (ρ : Operand → Value), (∀ y ∈ o.op.operands, RV E (e y) (ρ y)) → (∀ n b, st n = some b → RBk P B E n b) → ∃ u, (execOp ρ o).run P E.w = .ok (.value u) E.w ∧ RV E v u) : HD P o e st nm v none := by
  intro B E ρ h1 _ h2 _ _ _
  obtain ⟨u, hr, hv⟩ := h B E ρ h1 h2
  rw [hr]
  exact ⟨E, rfl, HStep.refl E nm, hv, rfl⟩
/-- a new block -/
theorem HD.new {v : V} {x : Blk} (h : ∀ (B : Base) (E : Env) (ρ : Operand → Value), (∀ y ∈ o.op.operands, RV E (e y) (ρ y)) → (∀ n b, st n = some b → RBk P B E n b) → E.F.lt E.w → B.w0.heap.size ≤ E.w.heap.size → E.η nm = none →
    ∃ u E', (execOp ρ o).run P E.w = .ok (.value u) E'.w ∧ HStep E E' nm ∧ RV E' v u ∧ NewB P B E E' nm (some x)) : HD P o e st nm v (some x) := by
  intro B E ρ h1 _ h2 h3 h4 h5
  obtain ⟨u, E', hr, h6, h7, h8⟩ := h B E ρ h1 h2 h3 h4 h5
  rw [hr]
  exact ⟨E', rfl, h6, h7, h8⟩
theorem hd_move {x : Operand} (ho : o.op = .move x) : HD P o e st nm (e x) none := HD.val fun B E ρ h1 _ => ⟨ρ x, by simp [execOp, ho], h1 x (by simp [Op.operands, ho])⟩
theorem hd_assign {x : Operand} (ho : o.op = .assign x) : HD P o e st nm (e x) none := HD.val fun B E ρ h1 _ => ⟨ρ x, by simp [execOp, ho], h1 x (by simp [Op.operands, ho])⟩
theorem hd_extract {x : Operand} {i : Nat} {vs : List V} {v : V} (ho : o.op = .extract x i) (hx : e x = .tup vs) (hi : vs[i]? = some v) : HD P o e st nm v none := HD.val fun B E ρ h1 _ => by
  have hr := h1 x (by simp [Op.operands, ho])
  rw [hx] at hr
  simp only [RV] at hr
  obtain ⟨us, hu, hl⟩ := hr
  obtain ⟨u, h3, h4⟩ := hl.get hi
  exact ⟨u, by simp [execOp, ho, hu, Instr.extract, h3], h4⟩
/-- cells that are known, read -/
theorem ld_run {E : Env} {t : Nat} {i : TyI} (hi : TyOk P t i) {b off : Nat} {cs : List V} {us : List Value} (hl : RVL E cs us) (h1 : ∀ u ∈ us, u.oneCell' = true) (hc : ∀ j u, us[j]? = some u → E.w.cell? ⟨b, off + j, none⟩ = some u) {K : HK} (h : ldK True i cs K) :
    ∃ v u, K v none ∧ (Instr.loadAt t (.pointer (some ⟨b, off, none⟩))).run P E.w = .ok u E.w ∧ RV E v u := by
  obtain ⟨d, hd1, hd2⟩ := hi.row
  unfold ldK at h
  cases ha : i.kd.agg with
  | true =>
    rw [ha] at h
    obtain ⟨hsz, hK⟩ := h
    have hsz := hsz trivial
    have hlen := hl.len
    refine ⟨_, .agg (us.take i.sz).toArray, hK, run_loadAt_mid E.w b off t (us.take i.sz) d (fun j v hj => ?_) hd1 (by rw [hd2, ha]) (by rw [hi.size, List.length_take]; congr 1; omega), ?_⟩
    · rw [List.getElem?_take] at hj
      split at hj
      · exact hc j v hj
      · cases hj
    · simp only [RV]
      exact ⟨_, rfl, hl.take _, fun u hu => h1 u (List.mem_of_mem_take hu)⟩
  | false =>
    rw [ha] at h
    simp only at h
    split at h
    · rename_i c hc0
      obtain ⟨cs', rfl⟩ : ∃ cs', cs = c :: cs' := by
        cases cs with
        | nil => cases hc0
        | cons y ys => cases hc0; exact ⟨ys, rfl⟩
      simp only [RVL] at hl
      obtain ⟨u, r, rfl, h3, h4⟩ := hl
      have hcell := hc 0 u (by simp)
      refine ⟨c, u, h, ?_, h3⟩
      simp only [Nat.add_zero] at hcell
      simp [Instr.loadAt, Instr.sureAddr, loadVar, hi.isAgg, ha, run_load, hcell]
    · exact h.elim
/-- a variable's cells -/
theorem RBk.cells_get {B : Base} {E : Env} {n b off : Nat} {t : Nat} {cs : List V} (h : RBk P B E n (.cells t cs)) (hp : E.η n = some (.pointer (some ⟨b, 0, none⟩))) :
    ∃ us : List Value, RVL E cs us ∧ (∀ u ∈ us, u.oneCell' = true) ∧ E.w.heap[b]? = some (.cells us.toArray t (0, 0)) ∧ ∀ j u, (us.drop off)[j]? = some u → E.w.cell? ⟨b, off + j, none⟩ = some u := by
  obtain ⟨b', us, h1, h2, h3, h4, _⟩ := h
  rw [hp] at h1
  cases h1
  refine ⟨us, h3, h4, h2, fun j u hj => ?_⟩
  rw [List.getElem?_drop] at hj
  simp [World.cell?, h2, hj]
theorem ldK_val {G : Prop} {i : TyI} {cs : List V} {K : HK} (h : ldK G i cs K) : ∃ v, K v none ∧ (G → ∀ K' : HK, K' v none → ldK True i cs K') := by
  unfold ldK at h ⊢
  cases ha : i.kd.agg <;> rw [ha] at h <;> simp only at h ⊢
  · split at h
    · exact ⟨_, h, fun _ K' h' => h'⟩
    · exact h.elim
  · exact ⟨_, h.2, fun hG K' h' => ⟨fun _ => h.1 hG, h'⟩⟩
theorem hd_load_ptr {G : Prop} {t : Nat} {i : TyI} (hi : TyOk P t i) {x : Operand} (ho : o.op = .load t x) {n off : Nat} (hx : e x = .ptr n off) {t' : Nat} {cs : List V} (hst : st n = some (.cells t' cs)) {K : HK} (h : ldK G i (cs.drop off) K) :
    ∃ v, K v none ∧ (G → HD P o e st nm v none) := by
  obtain ⟨v, hK, hv⟩ := ldK_val h
  refine ⟨v, hK, fun hG => HD.val fun B E ρ h1 h2 => ?_⟩
  have hr := h1 x (by simp [Op.operands, ho])
  rw [hx] at hr
  simp only [RV] at hr
  obtain ⟨b, hb1, hb2⟩ := hr
  obtain ⟨us, g1, g2, g3, g4⟩ := (h2 n _ hst).cells_get (off := off) hb1
  obtain ⟨v', u, k1, k2, k3⟩ := ld_run hi (g1.drop off) (fun u hu => g2 u (List.mem_of_mem_drop hu)) g4 (hv hG (fun v' _ => v' = v) rfl)
  subst k1
  exact ⟨u, by simp [execOp, ho, hb2, k2], k3⟩
theorem hd_load_elt {G : Prop} {t : Nat} {i : TyI} (hi : TyOk P t i) {x : Operand} (ho : o.op = .load t x) {sz : Nat} {d0 : List D} {es : List (List D)} {j off : Nat} (hx : e x = .elt sz d0 es j off) (hj : G → j < es.length) {K : HK} (h : ldK G i ((dV (es.getD j d0)).drop off) K) :
    ∃ v, K v none ∧ (G → HD P o e st nm v none) := by
  obtain ⟨v, hK, hv⟩ := ldK_val h
  refine ⟨v, hK, fun hG => HD.val fun B E ρ h1 h2 => ?_⟩
  have hj := hj hG
  have hr := h1 x (by simp [Op.operands, ho])
  rw [hx] at hr
  simp only [RV] at hr
  obtain ⟨b, o', hp, hrow⟩ := hr
  have hge : es[j]? = some (es.getD j d0) := by simp [List.getD, hj]
  obtain ⟨b', o'', us, h3, h4, h5, h6, h7⟩ := hrow.get hge
  cases h3
  obtain ⟨v', u, k1, k2, k3⟩ := ld_run (E := E) hi (b := b) (off := o' + j * sz + off) ((RVL.of_data h4).drop off) (fun u hu => h6 u (List.mem_of_mem_drop hu)) (fun k u hk => by
    rw [List.getElem?_drop] at hk
    have := (h7 _ u hk).2
    rw [show o' + j * sz + off + k = o' + 0 + j * sz + (off + k) by omega]
    exact this) (hv hG (fun v' _ => v' = v) rfl)
  subst k1
  exact ⟨u, by simp [execOp, ho, hp, k2], k3⟩
theorem hd_load_oel {G : Prop} {t : Nat} {i : TyI} (hi : TyOk P t i) {x : Operand} (ho : o.op = .load t x) {n sz j off : Nat} (hx : e x = .oel n sz j off) {t' : Nat} {d0 : List V} {es : List (List V)} (hst : st n = some (.row t' sz d0 es)) (hj : G → j < es.length) {K : HK} (h : ldK G i ((es.getD j d0).drop off) K) :
    ∃ v, K v none ∧ (G → HD P o e st nm v none) := by
  obtain ⟨v, hK, hv⟩ := ldK_val h
  refine ⟨v, hK, fun hG => HD.val fun B E ρ h1 h2 => ?_⟩
  have hj := hj hG
  have hr := h1 x (by simp [Op.operands, ho])
  rw [hx] at hr
  simp only [RV] at hr
  obtain ⟨b, l, c, hp, hp2⟩ := hr
  obtain ⟨v0, us, g1, g2, g3, g4, g5, g6, g7⟩ := h2 n _ hst
  rw [hp] at g1
  cases g1
  have hcells := fun j u => g2.cells (g := b) rfl j u
  have hge : es[j]? = some (es.getD j d0) := by simp [List.getD, hj]
  have hfl : ∀ (es : List (List V)) (us : List Value) (j : Nat) (x : List V), RVL E es.flatten us → (∀ y ∈ es, y.length = sz) → es[j]? = some x → RVL E x ((us.drop (j * sz)).take sz) := by
    intro es
    induction es with
    | nil => intro us j x _ _ hx; simp at hx
    | cons y es ih =>
      intro us j x hu hz hx
      simp only [List.flatten_cons] at hu
      have hy := hz y (by simp)
      have t1 := hu.take y.length
      have t2 := hu.drop y.length
      simp only [List.take_left', List.drop_left'] at t1 t2
      cases j with
      | zero => simp at hx; subst hx; rw [Nat.zero_mul, List.drop_zero, ← hy]; exact t1
      | succ j =>
        have := ih (us.drop y.length) j x t2 (fun z hz' => hz z (by simp [hz'])) (by simpa using hx)
        rw [List.drop_drop, hy] at this
        rw [Nat.add_mul, Nat.one_mul, Nat.add_comm (j * sz)]
        exact this
  have h8 := hfl es us j _ g3 g4 hge
  obtain ⟨v', u, k1, k2, k3⟩ := ld_run (E := E) hi (b := b) (off := j * sz + off) (h8.drop off) (fun u hu => g5 u (List.mem_of_mem_drop (List.mem_of_mem_take (List.mem_of_mem_drop hu)))) (fun k u hk => by
    rw [List.getElem?_drop, List.getElem?_take] at hk
    split at hk
    · rw [List.getElem?_drop] at hk
      have := hcells _ _ hk
      rw [Addr.add_mid] at this
      rw [show j * sz + off + k = 0 + (j * sz + (off + k)) by omega]
      exact this
    · cases hk) (hv hG (fun v' _ => v' = v) rfl)
  subst k1
  exact ⟨u, by simp [execOp, ho, hp2, k2], k3⟩
end
end Go.Proofs.Ytfmefdeldgmhpaa

namespace Go.Proofs.Ytfmefdeldgmhpaa
set_option linter.unusedVariables false
set_option linter.unusedSimpArgs false
open Go.RowKit
section
variable {P : Program} {T : Tab} {o : Oper} {e : Operand → V} {st : Nat → Option Blk} {nm : Nat}
/-- a name for a new block -/
def Env.name (E : Env) (nm : Nat) (v : Value) (F : Ft) (w : World) : Env := ⟨fun n => if n = nm then some v else E.η n, F, w, E.dp⟩
theorem hstep_name {E : Env} {nm : Nat} {v : Value} {F : Ft} {w : World} (hb : Below E.w.heap.size E.w w) (hF : FtNew E.F F E.w w) : HStep E (E.name nm v F w) nm :=
  ⟨hb, fun n hn => by simp [Env.name, hn], hF, rfl⟩
theorem FtNew.same {F : Ft} {w w' : World} : FtNew F F w w' := ⟨Ft.le_refl _, fun _ _ h => .inl h, fun _ h => .inl h⟩
theorem below_alloc (w : World) (o : Obj) : Below w.heap.size w (w.alloc o) := (Below.refl _ _).alloc (Nat.le_refl _) _
theorem RVL.const {E : Env} : ∀ (us : List Value), RVL E (us.map fun c => .d (.c c)) us
  | [] => by simp [RVL]
  | u :: us => by simp only [List.map_cons, RVL, RV, RD]; exact ⟨u, us, rfl, rfl, RVL.const us⟩
theorem okB_new {B : Base} {E : Env} {nm : Nat} {v : Value} {w : World} {b : Nat} {p : Nat → Prop} (hl : E.F.lt E.w) (hB : B.w0.heap.size ≤ E.w.heap.size) (hb : b = E.w.heap.size) (hw : b < w.heap.size) : okB B (E.name nm v E.F w) b p :=
  ⟨.inl (by omega), hw, fun h => by have := hl.2 b h; omega, fun o h => by have := hl.1 b o h; omega⟩
theorem hd_alloc {t : Nat} {i : TyI} (hi : TyOk P t i) (ho : o.op = .alloc t) (h1 : allOne i.z = true) : HD P o e st nm (.ptr nm 0) (some (.cells t (zcells i.z))) :=
  HD.new fun B E ρ _ _ hl hB hn => by
    refine ⟨.pointer (some ⟨E.w.heap.size, 0, none⟩), E.name nm (.pointer (some ⟨E.w.heap.size, 0, none⟩)) E.F (E.w.alloc (.cells i.z.cells t)), ?_, hstep_name (below_alloc _ _) FtNew.same, ?_, ?_⟩
    · simp only [execOp, ho, Instr.alloc, Sem.run_bind, hi.zero, Result.andThen_ok, newVar, newRow]
      rfl
    · simp only [RV]
      exact ⟨_, by simp [Env.name], rfl⟩
    · refine ⟨.pointer (some ⟨E.w.heap.size, 0, none⟩), by simp [Env.name], fun b hb => by cases hb; exact Nat.le_refl _, _, i.z.cells.toList, by simp [Env.name], by simp only [Env.name, Array.toArray_toList]; exact heap_alloc_new _ _, RVL.const _, fun u hu => List.all_eq_true.1 h1 u hu, okB_new hl hB rfl (by simp)⟩
theorem kd_struct {t : Nat} {fs : List (Nat × Nat)} (h : kdOk P t (.struct fs)) {f d s : Nat} (hf : fs[f]? = some (d, s)) : ∃ fields fl, P.underlying t = some (.struct fields) ∧ fields[f]? = some fl ∧ fl.offset = d ∧ (P.info? fl.type).map (·.size) = some s := by
  simp only [kdOk] at h
  split at h
  · rename_i fields hu
    injection h with h
    have h2 : (fields.toList.map fun f => (f.offset, (P.info? f.type).map (·.size)))[f]? = (fs.map fun x => (x.1, some x.2))[f]? := by rw [h]
    rw [List.getElem?_map, List.getElem?_map, hf] at h2
    cases hx : fields.toList[f]? with
    | none => rw [hx] at h2; cases h2
    | some fl =>
      rw [hx] at h2
      simp at h2
      refine ⟨fields, fl, hu, by simpa using hx, h2.1, ?_⟩
      obtain ⟨a, h3, h4⟩ := h2.2
      rw [h3, Option.map_some, h4]
  · cases h
theorem Addr.add_any (b o j : Nat) : (⟨b, o, none⟩ : Addr).add j = ⟨b, o + j, none⟩ := by unfold Addr.add; split <;> simp_all
theorem field_run {t : Nat} {fs : List (Nat × Nat)} {sz bt : Nat} {z : Value} (h : TyOk P t ⟨.struct fs, sz, z, bt⟩) {f d s : Nat} (hf : fs[f]? = some (d, s)) (hs : s ≠ 0) (b o : Nat) (w : World) :
    (Instr.fieldAt t (.pointer (some ⟨b, o, none⟩)) f).run P w = .ok (.pointer (some ⟨b, o + d, none⟩)) w := by
  obtain ⟨fields, fl, hu, hfl, hd, hsz⟩ := kd_struct h.2 hf
  cases hi : P.info? fl.type with
  | none => rw [hi] at hsz; cases hsz
  | some j =>
    rw [hi] at hsz
    simp at hsz
    simp [Instr.fieldAt, run_underlying hu, hfl, Instr.sureAddr, fieldPlace, Go.sizeOf, typeInfo, hi, hsz, hs, hd, Addr.add_any]
theorem hd_fieldAddr {t : Nat} {fs : List (Nat × Nat)} {sz bt : Nat} {z : Value} (h : TyOk P t ⟨.struct fs, sz, z, bt⟩) {f d s : Nat} (hf : fs[f]? = some (d, s)) (hs : s ≠ 0) {x : Operand} (ho : o.op = .fieldAddr t x f) {K : HK}
    (hK : addOff d K (e x)) : ∃ v, K v none ∧ HD P o e st nm v none := by
  unfold addOff at hK
  split at hK <;> try exact hK.elim
  · rename_i n off hx
    refine ⟨_, hK, HD.val fun B E ρ h1 h2 => ?_⟩
    have hr := h1 x (by simp [Op.operands, ho])
    rw [hx] at hr
    simp only [RV] at hr
    obtain ⟨b, hb1, hb2⟩ := hr
    refine ⟨.pointer (some ⟨b, off + d, none⟩), ?_, ?_⟩
    · have := field_run h hf hs b off E.w
      simp [execOp, ho, hb2, this]
    · simp only [RV]; exact ⟨b, hb1, rfl⟩
  · rename_i sz d0 es j off hx
    refine ⟨_, hK, HD.val fun B E ρ h1 h2 => ?_⟩
    have hr := h1 x (by simp [Op.operands, ho])
    rw [hx] at hr
    simp only [RV] at hr
    obtain ⟨b, o', hb2, hb1⟩ := hr
    refine ⟨.pointer (some ⟨b, o' + j * sz + (off + d), none⟩), ?_, ?_⟩
    · have := field_run h hf hs b (o' + j * sz + off) E.w
      simp only [execOp, ho, hb2, Sem.run_bind, this]
      simp [Nat.add_assoc]
    · simp only [RV]; exact ⟨b, o', rfl, hb1⟩
  · rename_i n sz j off hx
    refine ⟨_, hK, HD.val fun B E ρ h1 h2 => ?_⟩
    have hr := h1 x (by simp [Op.operands, ho])
    rw [hx] at hr
    simp only [RV] at hr
    obtain ⟨b, l, c, hb1, hb2⟩ := hr
    refine ⟨.pointer (some ⟨b, j * sz + (off + d), none⟩), ?_, ?_⟩
    · have := field_run h hf hs b (j * sz + off) E.w
      simp only [execOp, ho, hb2, Sem.run_bind, this]
      simp [Nat.add_assoc]
    · simp only [RV]; exact ⟨b, l, c, hb1, rfl⟩
theorem slOf_ok {E : Env} {x : V} {sz : Nat} {d0 : List D} {es : List (List D)} {v : Value} (h : slOf x = some (sz, d0, es)) (hv : RV E x v) : RD E.F E.w (.sl sz d0 es) v := by
  unfold slOf at h
  split at h <;> try (cases h; done)
  · cases h; simpa only [RV] using hv
  · cases h; simp only [RV] at hv; exact hv.2
theorem elem_of {t el : Nat} (h : P.underlying t = some (.slice el)) : P.underlying t = some (.slice (P.elem t)) := by simp [Program.elem, h]
theorem elem_eq {t el : Nat} (h : P.underlying t = some (.slice el)) : P.elem t = el := by simp [Program.elem, h]
theorem hd_indexAddr_sl {t el : Nat} {i : TyI} (ht : P.underlying t = some (.slice el)) (hi : TyOk P el i) {x y : Operand} (ho : o.op = .indexAddr t x y) {k : IntKind} {j : Int} (hy : e y = .d (.c (.int k j))) {sz : Nat} {d0 : List D} {es : List (List D)} (hx : slOf (e x) = some (sz, d0, es)) (hsz : sz = i.sz) (hj0 : 0 ≤ j) (hj : j < es.length) :
    HD P o e st nm (.elt sz d0 es j.toNat 0) none := HD.val fun B E ρ h1 h2 => by
  have hrx := slOf_ok hx (h1 x (by simp [Op.operands, ho]))
  have hry := h1 y (by simp [Op.operands, ho])
  rw [hy] at hry
  simp only [RV, RD] at hry
  simp only [RD] at hrx
  obtain ⟨a, cap, hv, h3, h4, h5⟩ := hrx
  cases a with
  | none => have := RR.none_nil h5; subst this; simp at hj; omega
  | some ad =>
    have hlt : j.toNat < es.length := by omega
    obtain ⟨b, o', us, hae, _⟩ := h5.get (i := j.toNat) (List.getElem?_eq_getElem hlt)
    cases hae
    refine ⟨.pointer (some ⟨b, o' + j.toNat * sz, none⟩), ?_, ?_⟩
    · simp only [execOp, ho, hv, hry]
      rw [Sem.run_bind, run_indexAt_slice _ _ _ _ _ _ _ (elem_of ht), if_pos ⟨hj0, hj⟩, elem_eq ht, hi.sizeOf]
      simp [Addr.add_any, hsz]
    · simp only [RV]; exact ⟨b, o', by simp, h5⟩
theorem hd_indexAddr_mo {t el : Nat} {i : TyI} (ht : P.underlying t = some (.slice el)) (hi : TyOk P el i) {x y : Operand} (ho : o.op = .indexAddr t x y) {k : IntKind} {j : Int} (hy : e y = .d (.c (.int k j))) {n : Nat} (hx : e x = .mo n) {t' sz : Nat} {d0 : List V} {es : List (List V)} (hst : st n = some (.row t' sz d0 es)) (hsz : sz = i.sz) (hj0 : 0 ≤ j) (hj : j < es.length) :
    HD P o e st nm (.oel n sz j.toNat 0) none := HD.val fun B E ρ h1 h2 => by
  have hrx := h1 x (by simp [Op.operands, ho])
  have hry := h1 y (by simp [Op.operands, ho])
  rw [hx] at hrx
  rw [hy] at hry
  simp only [RV, RD] at hry hrx
  obtain ⟨hη, _⟩ := hrx
  obtain ⟨v0, us, g1, g2, _⟩ := h2 n _ hst
  rw [hη] at g1
  cases g1
  rcases g2.2 with ⟨_, h0⟩ | ⟨g, cap, cur, hv, _⟩
  · rw [h0] at hj; simp at hj; omega
  · refine ⟨.pointer (some ⟨g, j.toNat * sz, none⟩), ?_, ?_⟩
    · simp only [execOp, ho, hv, hry]
      rw [Sem.run_bind, run_indexAt_slice _ _ _ _ _ _ _ (elem_of ht), if_pos ⟨hj0, hj⟩, elem_eq ht, hi.sizeOf]
      simp [Addr.add_any, hsz]
    · simp only [RV]; exact ⟨g, es.length, cap, by rw [hη, hv], by simp⟩
theorem hd_iop {G : Prop} {op : BinOp} {xt yt : Nat} {x y : Operand} (ho : o.op = .binOp op xt x y yt) {k : IntKind} {a b : Int} (hx : e x = .d (.c (.int k a))) (hy : e y = .d (.c (.int k b))) {K : HK} (h : iop G op k a b (fun v => K v none)) : ∃ v, K v none ∧ (G → HD P o e st nm v none) := by
  have key : ∀ (u : Value), (∀ w, (binOp op xt (.int k a) (.int k b)).run P w = .ok u w) → HD P o e st nm (.d (.c u)) none := fun u hu => HD.val fun B E ρ h1 h2 => by
    have hrx := h1 x (by simp [Op.operands, ho])
    have hry := h1 y (by simp [Op.operands, ho])
    rw [hx] at hrx
    rw [hy] at hry
    simp only [RV, RD] at hrx hry
    refine ⟨u, ?_, by simp [RV, RD]⟩
    have hg : (eqGuard op xt x y (.int k a) (.int k b)).run P E.w = .ok () E.w := by
      unfold eqGuard; cases op <;> simp
    simp [execOp, ho, hrx, hry, hg, hu]
  unfold iop at h
  cases op <;> simp only at h <;> first
    | exact h.elim
    | (refine ⟨_, h, fun _ => key _ fun w => ?_⟩; simp [binOp, Op.intArith, Op.intCmp]; done)
    | (refine ⟨_, h, fun _ => key _ fun w => ?_⟩; simp [binOp, Op.intBits]; done)
    | (refine ⟨_, h.2, fun hG => key _ fun w => ?_⟩; simp [binOp, Op.intDiv, h.1 hG]; done)
theorem hd_iop2 {G : Prop} {op : BinOp} {xt yt : Nat} {x y : Operand} (ho : o.op = .binOp op xt x y yt) {k k' : IntKind} {a b : Int} (hx : e x = .d (.c (.int k a))) (hy : e y = .d (.c (.int k' b))) {K : HK} (h : iop2 G op k k' a b (fun v => K v none)) : ∃ v, K v none ∧ (G → HD P o e st nm v none) := by
  have key : ∀ (u : Value), (∀ w, (binOp op xt (.int k a) (.int k' b)).run P w = .ok u w) → HD P o e st nm (.d (.c u)) none := fun u hu => HD.val fun B E ρ h1 h2 => by
    have hrx := h1 x (by simp [Op.operands, ho])
    have hry := h1 y (by simp [Op.operands, ho])
    rw [hx] at hrx
    rw [hy] at hry
    simp only [RV, RD] at hrx hry
    refine ⟨u, ?_, by simp [RV, RD]⟩
    have hg : (eqGuard op xt x y (.int k a) (.int k' b)).run P E.w = .ok () E.w := by
      unfold eqGuard; cases op <;> simp
    simp [execOp, ho, hrx, hry, hg, hu]
  unfold iop2 at h
  split at h
  · refine ⟨_, h.2, fun hG => key _ fun w => ?_⟩
    have := h.1 hG
    simp [binOp, Op.shift, show ¬ b < 0 by omega]
  · refine ⟨_, h.2, fun hG => key _ fun w => ?_⟩
    have := h.1 hG
    simp [binOp, Op.shift, show ¬ b < 0 by omega]
  · obtain ⟨rfl, h⟩ := h
    exact hd_iop ho hx hy h
theorem hd_not {t : Nat} {x : Operand} (ho : o.op = .unOp .not t x) {b : Bool} (hx : e x = .d (.c (.bool b))) : HD P o e st nm (vB (!b)) none := HD.val fun B E ρ h1 h2 => by
  have hrx := h1 x (by simp [Op.operands, ho])
  rw [hx] at hrx
  simp only [RV, RD] at hrx
  exact ⟨.bool (!b), by simp [execOp, ho, hrx, Op.unary], by simp [RV, RD]⟩
theorem hd_len {c : Call} (ho : o.op = .call c) (hc : c.callee = .builtin .len) {t : Nat} {x : Operand} (hts : c.argTypes = #[t]) (has : c.args = #[x]) {el : Nat} (ht : P.underlying t = some (.slice el)) {sz : Nat} {d0 : List D} {es : List (List D)} (hx : slOf (e x) = some (sz, d0, es)) :
    HD P o e st nm (vI es.length) none := HD.val fun B E ρ h1 h2 => by
  have hrx := slOf_ok hx (h1 x (by simp [Op.operands, ho, Call.operands, hc, has]))
  simp only [RD] at hrx
  obtain ⟨a, cap, hv, _⟩ := hrx
  refine ⟨.int .i64 es.length, ?_, by simp [RV, RD]⟩
  simp [execOp, ho, resolve, hc, has, hts, invoke, builtin, hv, run_len_slice _ _ _ _ _ _ (elem_of ht), goInt]
theorem RVL.of_forall {E : Env} {ρ : Operand → Value} : ∀ (xs : List Operand), (∀ x ∈ xs, RV E (e x) (ρ x)) → RVL E (xs.map e) (xs.map ρ)
  | [], _ => by simp [RVL]
  | x :: xs, h => by
    simp only [List.map_cons, RVL]
    exact ⟨_, _, rfl, h x (by simp), RVL.of_forall xs (fun y hy => h y (by simp [hy]))⟩
theorem run_callFunc {f : FuncId} (hf : (P.funcs[f]?).any (fun fn => fn.name != "runtime.NumGoroutine" && fn.body.isSome) = true) (args : Array Value) (w : World) : (callFunc f args).run P w = .ok (.enter f args) w := by
  cases h : P.funcs[f]? with
  | none => rw [h] at hf; cases hf
  | some fn =>
    rw [h] at hf
    simp at hf
    obtain ⟨bd, hb⟩ := Option.isSome_iff_exists.1 hf.2
    unfold callFunc
    simp [run_program, h, hf.1, hb]
theorem hd_call {c : Call} (ho : o.op = .call c) {f : FuncId} (hc : c.callee = .value (.func f)) {asA : List A} {r : Ret} (has : toAs (c.args.toList.map e) = some asA) (hS : Spec P f asA r)
    (hf : (P.funcs[f]?).any (fun fn => fn.name != "runtime.NumGoroutine" && fn.body.isSome) = true) : HD P o e st nm (ofRet r) none := by
  intro B E ρ h1 hρ h2 hl hB hn
  have hargs : RVL E (c.args.toList.map e) (c.args.toList.map ρ) := RVL.of_forall _ (fun x hx => h1 x (by simp only [ho, Op.operands, Call.operands, hc]; simp [Array.mem_toList_iff.1 hx]))
  have hA := toAs_ok has hargs
  have hrun : (execOp ρ o).run P E.w = .ok (.enter f (c.args.toList.map ρ).toArray) E.w := by
    have hmap : c.args.map ρ = (c.args.toList.map ρ).toArray := by rw [← Array.toList_map, Array.toArray_toList]
    rw [← hmap]
    simp [execOp, ho, resolve, hc, hρ, Deferred.ofValue, invoke, run_callFunc hf]
  rw [hrun]
  simp only [Upon]
  refine (hS E.F E.w _ hl hA).mono ?_
  rintro x w' ⟨v, F', rfl, hb, hF, hr⟩
  exact ⟨v, rfl, ⟨E.η, F', w', E.dp⟩, rfl, ⟨hb, fun _ _ => rfl, hF, rfl⟩, ofRet_ok (E := ⟨E.η, F', w', E.dp⟩) hr, rfl⟩
/-- a call that returns a row of its own -/
theorem hd_callO {c : Call} (ho : o.op = .call c) {f : FuncId} (hc : c.callee = .value (.func f)) {asA : List A} {el sz : Nat} {d0 : List D} {es : List (List D)} (has : toAs (c.args.toList.map e) = some asA) (hS : SpecO P f asA el sz d0 es)
    (hf : (P.funcs[f]?).any (fun fn => fn.name != "runtime.NumGoroutine" && fn.body.isSome) = true) : HD P o e st nm (.mo nm) (some (.row el sz (dV d0) (es.map dV))) := by
  intro B E ρ h1 hρ h2 hl hB hn
  have hargs : RVL E (c.args.toList.map e) (c.args.toList.map ρ) := RVL.of_forall _ (fun x hx => h1 x (by simp only [ho, Op.operands, Call.operands, hc]; simp [Array.mem_toList_iff.1 hx]))
  have hA := toAs_ok has hargs
  have hrun : (execOp ρ o).run P E.w = .ok (.enter f (c.args.toList.map ρ).toArray) E.w := by
    have hmap : c.args.map ρ = (c.args.toList.map ρ).toArray := by rw [← Array.toList_map, Array.toArray_toList]
    rw [← hmap]
    simp [execOp, ho, resolve, hc, hρ, Deferred.ofValue, invoke, run_callFunc hf]
  rw [hrun]
  simp only [Upon]
  refine (hS E.F E.w _ hl hA).mono ?_
  rintro x w' ⟨v, xs, rfl, hb', hown, hd, ho1, hln, hmax, hnew⟩
  have hform : ∃ a l c, v = .slice a l c := by
    rcases hown.2 with ⟨rfl, _⟩ | ⟨g, cap, cur, rfl, _⟩ <;> exact ⟨_, _, _, rfl⟩
  let E' : Env := ⟨fun k => if k = nm then some v else E.η k, E.F, w', E.dp⟩
  have hη : E'.η nm = some v := by simp [E']
  have hflat : (es.map dV).flatten = dV es.flatten := by rw [show dV es.flatten = es.flatten.map .d from rfl, List.map_flatten]; rfl
  refine ⟨v, rfl, E', rfl, ⟨hb', fun n hn' => by simp [E', hn'], ⟨Ft.le_refl _, fun _ _ h => .inl h, fun _ h => .inl h⟩, rfl⟩, ?_, v, hη, fun b hb1 => hnew b hb1, v, xs, hη, by rw [List.length_map]; exact hown, by rw [hflat]; exact RVL.of_data (E := E') hd, fun x hx => ?_, ho1, by rw [List.length_map]; exact hmax, fun b hb1 => ?_⟩
  · simp only [RV]; exact ⟨hη, hform⟩
  · obtain ⟨y, hy, rfl⟩ := List.mem_map.1 hx
    simp [dV, hln y hy]
  · have hlt : b < w'.heap.size := by
      rcases hown.2 with ⟨rfl, _⟩ | ⟨g, cap, cur, rfl, _, hg, _⟩
      · cases hb1
      · cases hb1
        exact (Array.getElem?_eq_some_iff.1 hg).1
    have h3 := hnew b hb1
    refine ⟨.inl (Nat.le_trans hB h3), hlt, fun hm => ?_, fun o hc' => ?_⟩
    · have := hl.2 b hm; omega
    · have := hl.1 b o hc'; omega
end
end Go.Proofs.Ytfmefdeldgmhpaa

namespace Go.Proofs.Ytfmefdeldgmhpaa
set_option linter.unusedVariables false
set_option linter.unusedSimpArgs false
open Go.RowKit
section
variable {P : Program} {T : Tab} {G : Prop} {o : Oper} {e : Operand → V} {st : Nat → Option Blk} {nm : Nat} {K : HK}
abbrev Ok (P : Program) (G : Prop) (o : Oper) (e : Operand → V) (st : Nat → Option Blk) (nm : Nat) (K : HK) : Prop := ∃ v x, K v x ∧ (G → HD P o e st nm v x)
theorem Ok.of_none (h : ∃ v, K v none ∧ (G → HD P o e st nm v none)) : Ok P G o e st nm K := by
  obtain ⟨v, h1, h2⟩ := h; exact ⟨v, none, h1, h2⟩
theorem ok_ld {t : Nat} {i : TyI} (hi : TyOk P t i) {x : Operand} (ho : o.op = .load t x) (h : ldV G st i K (e x)) : Ok P G o e st nm K := by
  refine Ok.of_none ?_
  generalize hx : e x = y at h
  unfold ldV at h
  split at h <;> try exact h.elim
  · split at h <;> try exact h.elim
    rename_i hst
    exact hd_load_ptr hi ho hx hst h
  · exact hd_load_elt hi ho hx h.1 h.2
  · split at h <;> try exact h.elim
    rename_i hst
    obtain ⟨rfl, h1, h2⟩ := h
    exact hd_load_oel hi ho hx hst h1 h2
theorem ok_ix {t el : Nat} {i : TyI} (ht : P.underlying t = some (.slice el)) (hi : TyOk P el i) {x y : Operand} (ho : o.op = .indexAddr t x y) (h : ixK G st i.sz K (e x) (e y)) : Ok P G o e st nm K := by
  refine Ok.of_none ?_
  generalize hx : e x = u at h
  generalize hy : e y = v at h
  unfold ixK at h
  split at h <;> try exact h.elim
  · split at h <;> try exact h.elim
    rename_i hst
    exact ⟨_, h.2.2, fun hG => hd_indexAddr_mo ht hi ho hy hx hst h.1 (h.2.1 hG).1 (h.2.1 hG).2⟩
  · exact ⟨_, h.2.2, fun hG => hd_indexAddr_sl ht hi ho hy (by rw [hx]; rfl) h.1 (h.2.1 hG).1 (h.2.1 hG).2⟩
  · exact ⟨_, h.2.2, fun hG => hd_indexAddr_sl ht hi ho hy (by rw [hx]; rfl) h.1 (h.2.1 hG).1 (h.2.1 hG).2⟩
theorem icells_ok {E : Env} : ∀ {xs : List V} {a : List Int} {us : List Value}, icells xs = some a → RVL E xs us → us = a.map (Value.int .i64)
  | [], a, us, h, hu => by simp [icells] at h; subst h; simp only [RVL] at hu; simp [hu]
  | x :: xs, a, us, h, hu => by
    unfold icells at h
    split at h
    · rename_i heq; cases heq
    · rename_i n l heq
      cases heq
      cases hq : icells xs with
      | none => rw [hq] at h; cases h
      | some b =>
        rw [hq] at h
        simp only [Option.map_some, Option.some.injEq] at h
        subst h
        simp only [RVL, RV, RD] at hu
        obtain ⟨u, r, rfl, rfl, h3⟩ := hu
        rw [icells_ok hq h3]
        rfl
    · cases h
theorem nilmap_run (w : World) {xt k el : Nat} (ht : P.underlying xt = some (.map k el)) (x y : Operand) (m : Option Nat) {op : BinOp} (h : op = .eql ∨ op = .neq) :
    (do eqGuard op xt x y (.map m) (.map none); binOp op xt (.map m) (.map none) : Sem Value).run P w = .ok (.bool (if op = .eql then m.isNone else !m.isNone)) w := by
  have he : (Op.equal xt (.map m) (.map none)).run P w = .ok m.isNone w := by
    have gen : ∀ d, (Op.equalIn (d + 1) xt (.map m) (.map none)).run P w = .ok m.isNone w := fun d => by cases m <;> simp [Op.equalIn, run_underlying ht]
    exact gen 9999
  have hg : (eqGuard op xt x y (.map m) (.map none)).run P w = .ok () w := by unfold eqGuard; rcases h with rfl | rfl <;> simp
  rcases h with rfl | rfl <;> simp only [Sem.run_bind, hg, Result.andThen_ok] <;> simp [binOp, he]
theorem hd_nilmap {xt k el yt : Nat} (ht : P.underlying xt = some (.map k el)) {op : BinOp} {x y : Operand} (ho : o.op = .binOp op xt x y yt) {b : Bool} {X : V} (hx : e x = X) (hX : ∀ E v, RV E X v → ∃ m : Option Nat, v = .map m ∧ m.isNone = b) (hy : e y = .d (.c (.map none))) (hK : eqop b (fun v => K v none) op) : ∃ v, K v none ∧ HD P o e st nm v none := by
  have key : (op = .eql ∨ op = .neq) → HD P o e st nm (vB (if op = .eql then b else !b)) none := fun hop => HD.val fun B E ρ h1 h2 => by
    have h3 := h1 x (by simp [Op.operands, ho])
    have h4 := h1 y (by simp [Op.operands, ho])
    rw [hx] at h3
    rw [hy] at h4
    obtain ⟨m, e1, e2⟩ := hX E _ h3
    simp only [RV, RD] at h4
    refine ⟨.bool (if op = .eql then b else !b), ?_, by simp only [RV, RD]⟩
    simp only [execOp, ho, e1, h4, Sem.run_bind]
    have := nilmap_run (P := P) E.w ht x y m hop
    simp only [Sem.run_bind] at this
    rw [this, e2]
    rfl
  unfold eqop at hK
  split at hK <;> try exact hK.elim
  · exact ⟨_, hK, by simpa using key (.inl rfl)⟩
  · exact ⟨_, hK, by simpa using key (.inr rfl)⟩
theorem ok_bin (hT : TabOk P T) {op : BinOp} {xt yt : Nat} {x y : Operand} (ho : o.op = .binOp op xt x y yt) (h : binK P T op xt G (fun v => K v none) (e x) (e y)) : Ok P G o e st nm K := by
  refine Ok.of_none ?_
  generalize hx : e x = u at h
  generalize hy : e y = v at h
  unfold binK at h
  split at h <;> try exact h.elim
  · exact hd_iop2 ho hx hy h
  · rename_i a b
    split at h <;> try exact h.elim
    rename_i sz z bt hty
    have ht : P.underlying xt = some .bool := (ty_ok hT hty).2
    have key : ∀ (r : Bool), (∀ w, (binOp op xt (.bool a) (.bool b)).run P w = .ok (.bool r) w) → HD P o e st nm (vB r) none := fun r hr => HD.val fun B E ρ h1 h2 => by
      have h3 := h1 x (by simp [Op.operands, ho])
      have h4 := h1 y (by simp [Op.operands, ho])
      rw [hx] at h3
      rw [hy] at h4
      simp only [RV, RD] at h3 h4
      refine ⟨.bool r, ?_, by simp [RV, RD]⟩
      have hg : (eqGuard op xt x y (.bool a) (.bool b)).run P E.w = .ok () E.w := by unfold eqGuard; cases op <;> simp
      simp [execOp, ho, h3, h4, hg, hr]
    unfold eqop at h
    split at h <;> try exact h.elim
    · exact ⟨_, h, fun _ => key _ fun w => run_eql_bool w xt a b ht⟩
    · refine ⟨_, h, fun _ => key _ fun w => ?_⟩
      have := run_eql_bool w xt a b ht
      simp only [binOp, Sem.run_bind] at this ⊢
      cases hq : (Op.equal xt (.bool a) (.bool b)).run P w with
      | ok r w' => rw [hq] at this; simp only [Result.andThen_ok, Sem.run_pure, Result.ok.injEq, Value.bool.injEq] at this ⊢; exact ⟨by rw [this.1], this.2⟩
      | halt q w' => rw [hq] at this; cases this
  · split at h <;> try exact h.elim
    rename_i a b ha hb
    obtain ⟨⟨hl, hE⟩, h⟩ := h
    have key : (op = .eql ∨ op = .neq) → HD P o e st nm (vB (if op = .eql then a == b else !(a == b))) none := fun hop => HD.val fun B E ρ h1 h2 => by
      have h3 := h1 x (by simp [Op.operands, ho])
      have h4 := h1 y (by simp [Op.operands, ho])
      rw [hx] at h3
      rw [hy] at h4
      simp only [RV] at h3 h4
      obtain ⟨us, e1, e2, _⟩ := h3
      obtain ⟨vs, e3, e4, _⟩ := h4
      rw [icells_ok ha e2] at e1
      rw [icells_ok hb e4] at e3
      refine ⟨.bool (if op = .eql then a == b else !(a == b)), ?_, by simp only [RV, RD]⟩
      simp only [execOp, ho, e1, e3, Sem.run_bind]
      have := hE E.w x y a b rfl hl.symm op hop
      simp only [Sem.run_bind] at this
      rw [this]
      rfl
    unfold eqop at h
    split at h <;> try exact h.elim
    · exact ⟨_, h, fun _ => by simpa using key (.inl rfl)⟩
    · exact ⟨_, h, fun _ => by simpa using key (.inr rfl)⟩
  · split at h <;> try exact h.elim
    rename_i hty
    obtain ⟨v, h1, h2⟩ := hd_nilmap (st := st) (nm := nm) (ty_ok hT hty).2 ho hx (fun E v hv => by simp only [RV] at hv; obtain ⟨_, b, rfl⟩ := hv; exact ⟨_, rfl, rfl⟩) hy h
    exact ⟨v, h1, fun _ => h2⟩
  · split at h <;> try exact h.elim
    rename_i hty
    obtain ⟨v, h1, h2⟩ := hd_nilmap (st := st) (nm := nm) (ty_ok hT hty).2 ho hx (fun E v hv => by simp only [RV, RD] at hv; exact ⟨_, hv, rfl⟩) hy h
    exact ⟨v, h1, fun _ => h2⟩
theorem ok_not {t : Nat} {x : Operand} (ho : o.op = .unOp .not t x) (h : notK K (e x)) : Ok P G o e st nm K := by
  refine Ok.of_none ?_
  generalize hx : e x = u at h
  unfold notK at h
  split at h <;> try exact h.elim
  exact ⟨_, h, fun _ => hd_not ho hx⟩
theorem hd_pick {c x y : Operand} (ho : o.op = .pick c x y) {b p q : Bool} (hc : e c = .d (.c (.bool b))) (hp : b = true → ∀ E v, RV E (e x) v → v = .bool p) (hq : b = false → ∀ E v, RV E (e y) v → v = .bool q) : HD P o e st nm (vB (pickV b p q)) none := HD.val fun B E ρ h1 h2 => by
  have h3 := h1 c (by simp [Op.operands, ho])
  have h4 := h1 x (by simp [Op.operands, ho])
  have h5 := h1 y (by simp [Op.operands, ho])
  rw [hc] at h3
  simp only [RV, RD] at h3
  cases b with
  | true => exact ⟨.bool p, by simp [execOp, ho, h3, asBool, hp rfl _ _ h4], by simp [RV, RD, pickV]⟩
  | false => exact ⟨.bool q, by simp [execOp, ho, h3, asBool, hq rfl _ _ h5], by simp [RV, RD, pickV]⟩
theorem hd_pick' {c x y : Operand} (ho : o.op = .pick c x y) {b p q : Bool} (hc : ∀ E v, RV E (e c) v → v = .bool b) (hp : b = true → ∀ E v, RV E (e x) v → v = .bool p) (hq : b = false → ∀ E v, RV E (e y) v → v = .bool q) : HD P o e st nm (vB (pickV b p q)) none := HD.val fun B E ρ h1 h2 => by
  have h3 := hc _ _ (h1 c (by simp [Op.operands, ho]))
  have h4 := h1 x (by simp [Op.operands, ho])
  have h5 := h1 y (by simp [Op.operands, ho])
  cases b with
  | true => exact ⟨.bool p, by simp [execOp, ho, h3, asBool, hp rfl _ _ h4], by simp [RV, RD, pickV]⟩
  | false => exact ⟨.bool q, by simp [execOp, ho, h3, asBool, hq rfl _ _ h5], by simp [RV, RD, pickV]⟩
theorem ok_pick {c x y : Operand} (ho : o.op = .pick c x y) (h : pickK G K (e c) (e x) (e y)) : Ok P G o e st nm K := by
  refine Ok.of_none ?_
  generalize hc : e c = b at h
  generalize hx : e x = u at h
  generalize hy : e y = v at h
  have lit : ∀ {z : Operand} {p : Bool}, e z = .d (.c (.bool p)) → ∀ E v, RV E (e z) v → v = .bool p := fun hz E v hv => by rw [hz] at hv; simpa only [RV, RD] using hv
  have cnd : ∀ {z : Operand} {p g : Bool}, e z = .cond g (.d (.c (.bool p))) → g = true → ∀ E v, RV E (e z) v → v = .bool p := fun hz hg E v hv => by rw [hz] at hv; simp only [RV, RD] at hv; exact hv.1 hg
  unfold pickK at h
  split at h <;> try exact h.elim
  · exact ⟨_, h, fun _ => hd_pick ho hc (fun _ => lit hx) (fun _ => lit hy)⟩
  · exact ⟨_, h.2, fun hG => hd_pick ho hc (fun hb => cnd hx (h.1 hG hb)) (fun _ => lit hy)⟩
  · exact ⟨_, h.2, fun hG => hd_pick ho hc (fun _ => lit hx) (fun hb => cnd hy (h.1 hG hb))⟩
theorem ok_ex {x : Operand} {i : Nat} (ho : o.op = .extract x i) (h : exK i K (e x)) : Ok P G o e st nm K := by
  refine Ok.of_none ?_
  generalize hx : e x = u at h
  unfold exK at h
  split at h <;> try exact h.elim
  split at h <;> try exact h.elim
  rename_i hi
  exact ⟨_, h, fun _ => hd_extract ho hx hi⟩
theorem ok_cv {s t : Nat} {j : TyI} {k : IntKind} (hs : TyOk P s j) (ht : P.underlying t = some (.int k)) {x : Operand} (ho : o.op = .convert s t x) (h : cvK k K (e x)) : Ok P G o e st nm K := by
  refine Ok.of_none ?_
  generalize hx : e x = u at h
  unfold cvK at h
  split at h <;> try exact h.elim
  rename_i k' n
  refine ⟨_, h, fun _ => HD.val fun B E ρ h1 h2 => ?_⟩
  have h3 := h1 x (by simp [Op.operands, ho])
  rw [hx] at h3
  simp only [RV, RD] at h3
  obtain ⟨d, hd, _⟩ := hs.row
  have hk : P.intKind t = k := by simp [Program.intKind, ht]
  refine ⟨.int k (k.wrap n), ?_, by simp only [RV, RD]⟩
  simp only [execOp, ho, h3, Sem.run_bind]
  rw [run_convert_int _ _ _ _ _ (by rw [hd]; rfl) (by rw [hk]; exact ht), hk]
  rfl
theorem hd_len_mo {c : Call} (ho : o.op = .call c) (hc : c.callee = .builtin .len) {t : Nat} {x : Operand} (hts : c.argTypes = #[t]) (has : c.args = #[x]) {el : Nat} (ht : P.underlying t = some (.slice el)) {n : Nat} {t' sz : Nat} {d0 : List V} {es : List (List V)} (hx : e x = .mo n) (hst : st n = some (.row t' sz d0 es)) :
    HD P o e st nm (vI es.length) none := HD.val fun B E ρ h1 h2 => by
  have h3 := h1 x (by simp [Op.operands, ho, Call.operands, hc, has])
  rw [hx] at h3
  simp only [RV] at h3
  obtain ⟨v0, us, g1, g2, _⟩ := h2 n _ hst
  rw [h3.1] at g1
  cases g1
  obtain ⟨a, cap, hv, _⟩ := own_form g2
  refine ⟨.int .i64 es.length, ?_, by simp [RV, RD]⟩
  simp [execOp, ho, resolve, hc, has, hts, invoke, builtin, hv, run_len_slice _ _ _ _ _ _ (elem_of ht), goInt]
theorem hd_len_nil {c : Call} (ho : o.op = .call c) (hc : c.callee = .builtin .len) {t : Nat} {x : Operand} (hts : c.argTypes = #[t]) (has : c.args = #[x]) {el : Nat} (ht : P.underlying t = some (.slice el)) (hx : e x = .d (.c (.slice none 0 0))) :
    HD P o e st nm (vI 0) none := HD.val fun B E ρ h1 h2 => by
  have h3 := h1 x (by simp [Op.operands, ho, Call.operands, hc, has])
  rw [hx] at h3
  simp only [RV, RD] at h3
  refine ⟨.int .i64 0, ?_, by simp [RV, RD]⟩
  simp [execOp, ho, resolve, hc, has, hts, invoke, builtin, h3, run_len_slice _ _ _ _ _ _ (elem_of ht), goInt]
theorem hd_mm {c : Call} (ho : o.op = .call c) {b : Builtin} (hc : c.callee = .builtin b) {x y : Operand} (has : c.args.toList = [x, y]) {p q r : Int} (hx : e x = .d (.c (.int .i64 p))) (hy : e y = .d (.c (.int .i64 q)))
    (hr : ∀ w ts ty cs, (builtin b ts ty cs #[.int .i64 p, .int .i64 q]).run P w = .ok (.value (.int .i64 r)) w) : HD P o e st nm (vI r) none := HD.val fun B E ρ h1 h2 => by
  have has' : c.args = #[x, y] := by rw [← Array.toArray_toList (xs := c.args), has]
  have h3 := h1 x (by simp [Op.operands, ho, Call.operands, hc, has'])
  have h4 := h1 y (by simp [Op.operands, ho, Call.operands, hc, has'])
  rw [hx] at h3
  rw [hy] at h4
  simp only [RV, RD] at h3 h4
  refine ⟨.int .i64 r, ?_, by simp [RV, RD]⟩
  simp [execOp, ho, resolve, hc, has', invoke, h3, h4, hr]
theorem args_one {c : Call} {x : V} (h : c.args.toList.map e = [x]) : ∃ y, c.args = #[y] ∧ e y = x := by
  cases hl : c.args.toList with
  | nil => rw [hl] at h; cases h
  | cons y l =>
    rw [hl] at h
    simp at h
    obtain ⟨h1, rfl⟩ := h
    exact ⟨y, by rw [← Array.toArray_toList (xs := c.args), hl], h1⟩
theorem args_two {c : Call} {x y : V} (h : c.args.toList.map e = [x, y]) : ∃ p q, c.args.toList = [p, q] ∧ e p = x ∧ e q = y := by
  cases hl : c.args.toList with
  | nil => rw [hl] at h; cases h
  | cons p l =>
    cases l with
    | nil => rw [hl] at h; simp at h
    | cons q l =>
      rw [hl] at h
      simp at h
      obtain ⟨h1, h2, rfl⟩ := h
      exact ⟨p, q, rfl, h1, h2⟩
theorem aggC_ok : ∀ {l : List Value} {c : List Int}, aggC l = some c → l = c.map (Value.int .i64)
  | [], c, h => by simp [aggC] at h; subst h; rfl
  | v :: l, c, h => by
    unfold aggC at h
    split at h
    · rename_i heq; cases heq
    · rename_i n l' heq
      cases heq
      cases hq : aggC l with
      | none => rw [hq] at h; cases h
      | some b =>
        rw [hq] at h
        simp only [Option.map_some, Option.some.injEq] at h
        subst h
        rw [aggC_ok hq]; rfl
    · cases h
theorem aggC_map : ∀ (c : List Int), aggC (c.map (Value.int .i64)) = some c
  | [] => rfl
  | n :: c => by simp [aggC, aggC_map c]
theorem keyC_i {u : Value} {c : List Int} (h : keyC .i u = some c) : ∃ n, u = .int .i64 n ∧ c = [n] := by
  unfold keyC at h
  split at h <;> first | (cases h; done) | (rename_i h1 _ ; cases h1; done) | skip
  all_goals first | (cases h; exact ⟨_, rfl, rfl⟩) | (rename_i h1; cases h1) | simp_all
theorem keyC_p {n : Nat} {u : Value} {c : List Int} (h : keyC (.p n) u = some c) : ∃ cs, u = .agg cs ∧ aggC cs.toList = some c := by
  cases u <;> simp [keyC] at h
  exact ⟨_, rfl, h⟩
theorem keyC_s {u : Value} {c : List Int} (h : keyC .s u = some c) : ∃ s, u = .string s ∧ s.data.toList.map (fun b => (b.toNat : Int)) = c := by
  cases u <;> simp [keyC] at h
  exact ⟨_, rfl, by simpa using h⟩
theorem bytes_inj : ∀ {a b : List UInt8}, a.map (fun b => (b.toNat : Int)) = b.map (fun b => (b.toNat : Int)) → a = b
  | [], [], _ => rfl
  | x :: a, y :: b, h => by
    simp only [List.map_cons, List.cons.injEq] at h
    have : x.toNat = y.toNat := by omega
    rw [UInt8.toNat_inj.1 this, bytes_inj h.2]
  | [], _ :: _, h => by simp at h
  | _ :: _, [], h => by simp at h
theorem keyC_inj {q : KQ} {u v : Value} {c : List Int} (hu : keyC q u = some c) (hv : keyC q v = some c) : u = v := by
  cases q with
  | i =>
    obtain ⟨n, rfl, h1⟩ := keyC_i hu
    obtain ⟨m, rfl, h2⟩ := keyC_i hv
    rw [h1] at h2
    cases h2
    rfl
  | p n =>
    obtain ⟨cs, rfl, h1⟩ := keyC_p hu
    obtain ⟨ds, rfl, h2⟩ := keyC_p hv
    rw [Array.toList_inj.1 ((aggC_ok h1).trans (aggC_ok h2).symm)]
  | s =>
    obtain ⟨a, rfl, h1⟩ := keyC_s hu
    obtain ⟨b, rfl, h2⟩ := keyC_s hv
    have := bytes_inj (h1.trans h2.symm)
    cases a; cases b
    have e := Array.toList_inj.1 this
    simp only at e
    rw [e]
theorem keyV_ok {q : KQ} {x : V} {c : List Int} {E : Env} {v : Value} (h : keyV q x = some c) (hv : RV E x v) : keyC q v = some c := by
  unfold keyV at h
  split at h
  · cases h; simp only [RV, RD] at hv; subst hv; rfl
  · simp only [RV] at hv
    obtain ⟨us, rfl, h2, _⟩ := hv
    rw [icells_ok h h2]
    simp only [keyC, List.toList_toArray]
    exact aggC_map c
  · cases h; simp only [RV, RD] at hv; subst hv; rfl
  · cases h
theorem rm_find {q : KQ} {k : TypeId} {E : Env} (K : KeyOk P k q) {c : List Int} {u : Value} (hu : keyC q u = some c) (hk : (keyOf P k u).isSome = true) (w : World) {ms : List MapEntry} {es : List (List Int × V)} (hm : RMp P q k E ms es) (hn : (es.map (·.1)).Nodup) :
    ((Instr.findKey k u ms).run P w = .ok none w ∧ lkM c es = none ∧ upM c .any es = es ++ [(c, .any)] ∧ dlM c es = es) ∨ ∃ j e x, (Instr.findKey k u ms).run P w = .ok (some (j, e.val)) w ∧ ms[j]? = some e ∧ e.key = u ∧ es[j]? = some (c, x) ∧ lkM c es = some x ∧ RV E x e.val := by
  obtain ⟨l, hl⟩ := Option.isSome_iff_exists.1 hk
  have hkeys : ∀ {ms : List MapEntry} {es : List (List Int × V)}, RMp P q k E ms es → ∀ e ∈ ms, ∃ l, keyOf P k e.key = some l := by
    intro ms
    induction ms with
    | nil => intro es _ e he; cases he
    | cons a ms ih =>
      intro es hm e he
      cases es with
      | nil => simp only [RMp] at hm
      | cons p es =>
        obtain ⟨d, x⟩ := p
        rcases List.mem_cons.1 he with rfl | he
        · exact Option.isSome_iff_exists.1 (K.fit _ _ hm.1.1 hm.1.2.1)
        · exact ih hm.2 e he
  rcases K.keyed.find w hl ms (hkeys hm) with ⟨h1, h2⟩ | ⟨j, e, h1, h2, h3⟩
  · left
    refine ⟨h1, ?_⟩
    clear h1 hkeys
    induction ms generalizing es with
    | nil =>
      cases es with
      | nil => exact ⟨rfl, rfl, rfl⟩
      | cons p es => simp only [RMp] at hm
    | cons a ms ih =>
      cases es with
      | nil => simp only [RMp] at hm
      | cons p es =>
        obtain ⟨d, x⟩ := p
        have hcd : c ≠ d := fun e => h2 a (by simp) (keyC_inj (by rw [e]; exact hm.1.1) hu)
        simp only [List.map_cons, List.nodup_cons] at hn
        obtain ⟨i1, i2, i3⟩ := ih hm.2 hn.2 (fun e he => h2 e (by simp [he]))
        simp only [lkM, upM, dlM, if_neg hcd]
        exact ⟨i1, by rw [i2]; rfl, by rw [i3]⟩
  · right
    have key : ∀ (ms : List MapEntry) (es : List (List Int × V)) (j : Nat), RMp P q k E ms es → (es.map (·.1)).Nodup → ms[j]? = some e → ∃ x, es[j]? = some (c, x) ∧ lkM c es = some x ∧ RV E x e.val := by
      intro ms
      induction ms with
      | nil => intro es j _ _ h; simp at h
      | cons a ms ih =>
        intro es j hm hn hj
        cases es with
        | nil => simp only [RMp] at hm
        | cons p es =>
          obtain ⟨d, x⟩ := p
          simp only [List.map_cons, List.nodup_cons] at hn
          cases j with
          | zero =>
            simp at hj
            subst hj
            have hdc : d = c := by have := hm.1.1; rw [h3, hu] at this; injection this with this; exact this.symm
            subst hdc
            exact ⟨x, rfl, by simp [lkM], hm.1.2.2⟩
          | succ j =>
            obtain ⟨y, i1, i2, i3⟩ := ih es j hm.2 hn.2 (by simpa using hj)
            have hcd : c ≠ d := fun e' => hn.1 (by
              rw [← e']
              exact List.mem_map.2 ⟨(c, y), List.mem_of_getElem? i1, rfl⟩)
            exact ⟨y, by simpa using i1, by simp only [lkM, if_neg hcd]; exact i2, i3⟩
    obtain ⟨x, i1, i2, i3⟩ := key ms es j hm hn h2
    exact ⟨j, e, x, h1, h2, h3, i1, i2, i3⟩
theorem vD_ok {E : Env} {x : D} {v : Value} (h : RD E.F E.w x v) : RV E (vD x) v := by
  cases x <;> simp only [vD, RV] <;> try exact h
  simp only [RD] at h
  obtain ⟨us, h1, h2, h3⟩ := h
  exact ⟨us, h1, RVL.of_data h2, h3⟩
theorem rm_zip {P : Program} {q : KQ} {k : TypeId} {E : Env} : ∀ {ms : List MapEntry} {cs : List (List Int)} {es : List D}, keysR q ms cs → RDL E.F E.w es (ms.map (·.val)) → RMp P q k E ms (zipM cs es) ∧ (zipM cs es).map (·.1) = cs
  | [], [], es, _, hv => by
    cases es with
    | nil => exact ⟨trivial, rfl⟩
    | cons x es => simp only [List.map_nil, RDL] at hv; obtain ⟨u, r, h, _⟩ := hv; cases h
  | e :: ms, c :: cs, [], h, hv => by simp only [List.map_cons, RDL] at hv; cases hv
  | e :: ms, c :: cs, x :: es, h, hv => by
    simp only [List.map_cons, RDL] at hv
    obtain ⟨u, r, h1, h2, h3⟩ := hv
    cases h1
    obtain ⟨i1, i2⟩ := rm_zip (k := k) (P := P) h.2 h3
    exact ⟨⟨⟨h.1.1, h.1.2, vD_ok h2⟩, i1⟩, by simp [zipM, i2]⟩
  | [], _ :: _, _, h, _ => by simp only [keysR] at h
  | _ :: _, [], _, h, _ => by simp only [keysR] at h
theorem ok_look {t k el : Nat} {i : TyI} (ht : P.underlying t = some (.map k el)) (hi : TyOk P el i) {m x : Operand} {b : Bool} (ho : o.op = .lookup t m x b) (h : lookK P G st k i b K (e x) (e m)) : Ok P G o e st nm K := by
  refine Ok.of_none ?_
  generalize hx : e x = X at h
  generalize hm : e m = M at h
  unfold lookK at h
  split at h <;> try exact h.elim
  rotate_left
  · rename_i q k' zv z0 cs es
    split at h <;> try exact h.elim
    rename_i c hc
    obtain ⟨⟨rfl, rfl⟩, hK, hfit, hKv⟩ := h
    refine ⟨_, hKv, fun hG => HD.val fun B E ρ h1 h2 => ?_⟩
    have rm := h1 m (by simp [Op.operands, ho])
    have rx := h1 x (by simp [Op.operands, ho])
    rw [hm] at rm
    rw [hx] at rx
    simp only [RV, RD] at rm
    obtain ⟨g5, g6, g7⟩ := rm
    have g5 : RV E (vD z0) i.z := vD_ok g5
    have hkc := keyV_ok hc rx
    have hks := hK.fit _ _ hkc (hfit hG)
    obtain ⟨l, hl⟩ := Option.isSome_iff_exists.1 hks
    have hz := hi.zero E.w
    rcases g7 with ⟨gm, rfl⟩ | ⟨b', ms, clock, gm, g1, g2, g3, g4, g8⟩
    · have hnil := rm_find (P := P) (E := E) hK hkc hks E.w (ms := []) (es := []) trivial List.nodup_nil
      rcases hnil with ⟨h3, _⟩ | ⟨j, e0, y, _, h4, _⟩
      · refine ⟨if b then .tuple #[i.z, .bool false] else i.z, ?_, ?_⟩
        · simp [execOp, ho, Instr.lookup, run_underlying ht, gm, hK.keyed.check E.w _ hl, h3, hz, Result.andThen]
        · cases b
          · exact g5
          · simp only [zipM, lkM, Option.getD_none, Option.isSome_none, RV, RVL]
            exact ⟨[i.z, .bool false], rfl, _, _, rfl, g5, _, _, rfl, by simp [RD], rfl⟩
      · simp at h4
    · obtain ⟨g3', g4'⟩ := rm_zip (P := P) (E := E) (k := k') g3 g8
      rcases rm_find hK hkc hks E.w g3' (by rw [g4']; exact g4) with ⟨h3, h4, _⟩ | ⟨j, e0, y, h3, h4, h5, h6, h7, h8⟩
      · refine ⟨if b then .tuple #[i.z, .bool false] else i.z, ?_, ?_⟩
        · simp [execOp, ho, Instr.lookup, run_underlying ht, gm, MapKept.run_getObj_map g2, hK.keyed.check E.w _ hl, h3, hz, Result.andThen]
        · rw [h4]
          cases b
          · exact g5
          · simp only [Option.getD_none, Option.isSome_none, RV, RVL]
            exact ⟨[i.z, .bool false], rfl, _, _, rfl, g5, _, _, rfl, by simp [RD], rfl⟩
      · refine ⟨if b then .tuple #[e0.val, .bool true] else e0.val, ?_, ?_⟩
        · simp [execOp, ho, Instr.lookup, run_underlying ht, gm, MapKept.run_getObj_map g2, hK.keyed.check E.w _ hl, h3, Result.andThen]
        · rw [h7]
          cases b
          · exact h8
          · simp only [Option.getD_some, Option.isSome_some, RV, RVL]
            exact ⟨[e0.val, .bool true], rfl, _, _, rfl, h8, _, _, rfl, by simp [RD], rfl⟩
  rename_i n
  split at h <;> try exact h.elim
  rename_i q k' zv z0 es hst
  split at h <;> try exact h.elim
  rename_i c hc
  obtain ⟨⟨rfl, rfl⟩, hK, hfit, hKv⟩ := h
  refine ⟨_, hKv, fun hG => HD.val fun B E ρ h1 h2 => ?_⟩
  have rm := h1 m (by simp [Op.operands, ho])
  have rx := h1 x (by simp [Op.operands, ho])
  rw [hm] at rm
  rw [hx] at rx
  simp only [RV] at rm
  obtain ⟨b', ms, clock, g1, g2, g3, g4, g5, _⟩ := h2 n _ hst
  have gm : ρ m = .map (some b') := Option.some.inj (rm.1.symm.trans g1)
  have hkc := keyV_ok hc rx
  have hks := hK.fit _ _ hkc (hfit hG)
  obtain ⟨l, hl⟩ := Option.isSome_iff_exists.1 hks
  have hz := hi.zero E.w
  rcases rm_find hK hkc hks E.w g3 g4 with ⟨h3, h4, _⟩ | ⟨j, e0, y, h3, h4, h5, h6, h7, h8⟩
  · refine ⟨if b then .tuple #[i.z, .bool false] else i.z, ?_, ?_⟩
    · simp [execOp, ho, Instr.lookup, run_underlying ht, gm, MapKept.run_getObj_map g2, hK.keyed.check E.w _ hl, h3, hz, Result.andThen]
    · rw [h4]
      cases b
      · exact g5
      · simp only [Option.getD_none, Option.isSome_none, RV, RVL]
        exact ⟨[i.z, .bool false], rfl, _, _, rfl, g5, _, _, rfl, by simp [RD], rfl⟩
  · refine ⟨if b then .tuple #[e0.val, .bool true] else e0.val, ?_, ?_⟩
    · simp [execOp, ho, Instr.lookup, run_underlying ht, gm, MapKept.run_getObj_map g2, hK.keyed.check E.w _ hl, h3, Result.andThen]
    · rw [h7]
      cases b
      · exact h8
      · simp only [Option.getD_some, Option.isSome_some, RV, RVL]
        exact ⟨[e0.val, .bool true], rfl, _, _, rfl, h8, _, _, rfl, by simp [RD], rfl⟩
theorem hd_len_mp {c : Call} (ho : o.op = .call c) (hc : c.callee = .builtin .len) {t : Nat} {x : Operand} (hts : c.argTypes = #[t]) (has : c.args = #[x]) {k el : Nat} (ht : P.underlying t = some (.map k el)) {n : Nat} {q : KQ} {k' : TypeId} {zv : Value} {z0 : V} {es : List (List Int × V)} (hx : e x = .mp n) (hst : st n = some (.map q k' zv z0 es)) :
    HD P o e st nm (vI es.length) none := HD.val fun B E ρ h1 h2 => by
  have h3 := h1 x (by simp [Op.operands, ho, Call.operands, hc, has])
  rw [hx] at h3
  simp only [RV] at h3
  obtain ⟨b', ms, clock, g1, g2, g3, _⟩ := h2 n _ hst
  have gm : ρ x = .map (some b') := Option.some.inj (h3.1.symm.trans g1)
  have hlen : ∀ (ms : List MapEntry) (es : List (List Int × V)), RMp P q k' E ms es → ms.length = es.length := by
    intro ms
    induction ms with
    | nil => intro es h; cases es with
      | nil => rfl
      | cons p es => simp only [RMp] at h
    | cons a ms ih => intro es h; cases es with
      | nil => simp only [RMp] at h
      | cons p es => obtain ⟨d, y⟩ := p; simp [ih es h.2]
  have hl := hlen _ _ g3
  refine ⟨.int .i64 es.length, ?_, by simp [RV, RD]⟩
  simp only [execOp, ho, resolve, hc, has, hts, invoke, builtin]
  simp [Builtin.len_, run_underlying ht, gm, MapKept.run_getObj_map g2, goInt, ← hl]
theorem hd_len_dmp {c : Call} (ho : o.op = .call c) (hc : c.callee = .builtin .len) {t : Nat} {x : Operand} (hts : c.argTypes = #[t]) (has : c.args = #[x]) {k el : Nat} (ht : P.underlying t = some (.map k el)) {q : KQ} {k' : TypeId} {zv : Value} {z0 : D} {cs : List (List Int)} {es : List D} (hx : e x = .d (.mp q k' zv z0 cs es)) :
    HD P o e st nm (vI cs.length) none := HD.val fun B E ρ h1 h2 => by
  have h3 := h1 x (by simp [Op.operands, ho, Call.operands, hc, has])
  rw [hx] at h3
  simp only [RV, RD] at h3
  refine ⟨.int .i64 cs.length, ?_, by simp [RV, RD]⟩
  rcases h3.2.2 with ⟨gm, rfl⟩ | ⟨b', ms, clock, gm, g1, g2, g3, _⟩
  · simp only [execOp, ho, resolve, hc, has, hts, invoke, builtin]
    simp [Builtin.len_, run_underlying ht, gm, goInt]
  · have hlen : ∀ (ms : List MapEntry) (cs : List (List Int)), keysR q ms cs → ms.length = cs.length := by
      intro ms
      induction ms with
      | nil => intro es h; cases es with
        | nil => rfl
        | cons p es => simp only [keysR] at h
      | cons a ms ih => intro es h; cases es with
        | nil => simp only [keysR] at h
        | cons p es => simp [ih es h.2]
    have hl := hlen _ _ g3
    simp only [execOp, ho, resolve, hc, has, hts, invoke, builtin]
    simp [Builtin.len_, run_underlying ht, gm, MapKept.run_getObj_map g2, goInt, ← hl]
theorem ok_bi {c : Call} (hT : TabOk P T) (ho : o.op = .call c) {b : Builtin} (hc : c.callee = .builtin b) (h : biK T st b c.argTypes.toList (c.args.toList.map e) K) : Ok P G o e st nm K := by
  refine Ok.of_none ?_
  generalize hts' : c.argTypes.toList = ts at h
  generalize has : c.args.toList.map e = vs at h
  unfold biK at h
  split at h <;> try exact h.elim
  · split at h <;> try exact h.elim
    rename_i t x
    have hts : c.argTypes = #[t] := by rw [← Array.toArray_toList (xs := c.argTypes), hts']
    split at h <;> try exact h.elim
    · rename_i el sz z bt hty
      have ht : P.underlying t = some (.slice el) := (ty_ok hT hty).2
      obtain ⟨y, hy, rfl⟩ := args_one has
      generalize hx : e y = u at h
      unfold lenK at h
      split at h <;> try exact h.elim
      · exact ⟨_, h, fun _ => hd_len ho hc hts hy ht (by rw [hx]; rfl)⟩
      · exact ⟨_, h, fun _ => hd_len ho hc hts hy ht (by rw [hx]; rfl)⟩
      · exact ⟨_, h, fun _ => hd_len_nil ho hc hts hy ht hx⟩
      · split at h <;> try exact h.elim
        rename_i hst
        exact ⟨_, h, fun _ => hd_len_mo ho hc hts hy ht hx hst⟩
    · rename_i k el sz z bt hty
      have ht : P.underlying t = some (.map k el) := (ty_ok hT hty).2
      obtain ⟨y, hy, rfl⟩ := args_one has
      generalize hx : e y = u at h
      unfold lenM at h
      split at h <;> try exact h.elim
      · split at h <;> try exact h.elim
        rename_i hst
        exact ⟨_, h, fun _ => hd_len_mp ho hc hts hy ht hx hst⟩
      · exact ⟨_, h, fun _ => hd_len_dmp ho hc hts hy ht hx⟩
  · split at h <;> try exact h.elim
    obtain ⟨p, q, h1, h2, h3⟩ := args_two has
    unfold mmK at h
    split at h <;> try exact h.elim
    obtain ⟨rfl, rfl, h⟩ := h
    exact ⟨_, h, fun _ => hd_mm ho hc h1 h2 h3 (fun w ts ty cs => by simp [builtin, run_min_int2])⟩
  · split at h <;> try exact h.elim
    obtain ⟨p, q, h1, h2, h3⟩ := args_two has
    unfold mmK at h
    split at h <;> try exact h.elim
    obtain ⟨rfl, rfl, h⟩ := h
    exact ⟨_, h, fun _ => hd_mm ho hc h1 h2 h3 (fun w ts ty cs => by simp [builtin, run_max_int2])⟩
theorem ok_call {c : Call} (ho : o.op = .call c) {f : FuncId} (hc : c.callee = .value (.func f)) (h : callK P G nm f (c.args.toList.map e) K ⟨⟩) : Ok P G o e st nm K := by
  rcases h with ⟨asA, r, h1, h2, h3, h4⟩ | ⟨asA, el, sz, d0, es, h1, h2, h3, h4⟩
  · exact ⟨_, none, h4, fun hG => hd_call ho hc h1 (h2 hG) h3⟩
  · exact ⟨_, _, h4, fun hG => hd_callO ho hc h1 (h2 hG) h3⟩
end
end Go.Proofs.Ytfmefdeldgmhpaa

namespace Go.Proofs.Ytfmefdeldgmhpaa
set_option linter.unusedVariables false
set_option linter.unusedSimpArgs false
open Go.RowKit
theorem foldl_set (off : Nat) : ∀ (vs : List Value) (k : Nat) (arr : Array Value) (m : Nat), ((vs.zipIdx k).foldl (fun (cs : Array Value) (p : Value × Nat) => cs.setIfInBounds (off + p.2) p.1) arr)[m]? =
    if off + k ≤ m ∧ m < off + k + vs.length ∧ m < arr.size then vs[m - (off + k)]? else arr[m]?
  | [], k, arr, m => by
    have : ¬ (off + k ≤ m ∧ m < off + k + ([] : List Value).length ∧ m < arr.size) := by simp; omega
    rw [if_neg this]; rfl
  | v :: vs, k, arr, m => by
    simp only [List.zipIdx_cons, List.foldl_cons]
    rw [foldl_set off vs (k + 1) _ m, Array.size_setIfInBounds, Array.getElem?_setIfInBounds]
    by_cases h1 : m = off + k
    · subst h1
      have : ¬ (off + (k + 1) ≤ off + k ∧ off + k < off + (k + 1) + vs.length ∧ off + k < arr.size) := by omega
      rw [if_neg this, if_pos rfl]
      by_cases h2 : off + k < arr.size
      · rw [if_pos h2, if_pos (by simp; omega)]; simp
      · rw [if_neg h2, if_neg (by simp; omega)]; exact (Array.getElem?_eq_none (by omega)).symm
    · by_cases h2 : off + (k + 1) ≤ m ∧ m < off + (k + 1) + vs.length ∧ m < arr.size
      · rw [if_pos h2, if_pos (by simp; omega), show m - (off + k) = (m - (off + (k + 1))) + 1 by omega, List.getElem?_cons_succ]
      · rw [if_neg h2, if_neg (fun e => h1 e.symm), if_neg (by simp; omega)]
def spliceU (us : List Value) (off : Nat) (vs : List Value) : List Value := us.take off ++ vs ++ us.drop (off + vs.length)
theorem fold_splice {us vs : List Value} {off : Nat} (h : off + vs.length ≤ us.length) : (vs.toArray.zipIdx.foldl (fun (cs : Array Value) (p : Value × Nat) => cs.setIfInBounds (off + p.2) p.1) us.toArray) = (spliceU us off vs).toArray := by
  rw [← Array.foldl_toList]
  have hz : vs.toArray.zipIdx.toList = vs.zipIdx 0 := by simp
  rw [hz]
  refine Array.ext_getElem? fun m => ?_
  rw [foldl_set off vs 0]
  simp only [spliceU, List.getElem?_toArray, List.size_toArray]
  by_cases h1 : m < off
  · rw [if_neg (by omega), List.append_assoc, List.getElem?_append_left (by simp; omega), List.getElem?_take, if_pos h1]
  · by_cases h2 : m < off + vs.length
    · rw [if_pos (by omega), List.append_assoc, List.getElem?_append_right (by simp; omega), List.length_take, Nat.min_eq_left (by omega), List.getElem?_append_left (by omega)]
      rfl
    · rw [if_neg (by omega), List.getElem?_append_right (by simp; omega), List.getElem?_drop, List.length_append, List.length_take, Nat.min_eq_left (by omega)]
      congr 1; omega
section
variable {P : Program} {T : Tab} {G : Prop} {o : Oper} {e : Operand → V} {st : Nat → Option Blk} {nm : Nat} {K : HK} {E : Env} {ρ : Operand → Value}
theorem RVL.splice {cells cs : List V} {us vs : List Value} {off : Nat} (h : RVL E cells us) (h2 : RVL E cs vs) : RVL E (Go.Proofs.Ytfmefdeldgmhpaa.splice cells off cs) (spliceU us off vs) := by
  have hl := h2.len
  unfold Go.Proofs.Ytfmefdeldgmhpaa.splice spliceU
  rw [hl]
  exact ((h.take off).append h2).append (h.drop _)
theorem fill_ok {place : Nat → Option (Nat × Nat)} : ∀ {parts : List (Nat × Operand)} {cells cs : List V} {us : List Value}, fillV place cells (parts.map fun (i, x) => (i, e x)) = some cs → (∀ p ∈ parts, RV E (e p.2) (ρ p.2)) → RVL E cells us → (∀ u ∈ us, u.oneCell' = true) →
    ∃ us' : List Value, Instr.fill place us.toArray (parts.map fun (i, x) => (i, ρ x)) = some us'.toArray ∧ RVL E cs us' ∧ ∀ u ∈ us', u.oneCell' = true
  | [], cells, cs, us, h, _, hu, h1 => by
    simp [fillV] at h
    subst h
    exact ⟨us, by simp [Instr.fill], hu, h1⟩
  | (i, x) :: parts, cells, cs, us, h, hp, hu, h1 => by
    simp only [List.map_cons, fillV] at h
    split at h
    · rename_i off size cs' hpl hvc
      split at h
      · rename_i hsz
        obtain ⟨vs, hc1, hc2, hc3⟩ := vcells_ok hvc (hp (i, x) (by simp))
        have hlv := hc2.len
        have hlu := hu.len
        obtain ⟨us', g1, g2, g3⟩ := fill_ok (us := spliceU us off vs) h (fun p hp' => hp p (by simp [hp'])) (hu.splice hc2) (fun u hu' => by
          unfold spliceU at hu'
          rcases List.mem_append.1 hu' with hu' | hu'
          · rcases List.mem_append.1 hu' with hu' | hu'
            · exact h1 u (List.mem_of_mem_take hu')
            · exact hc3 u hu'
          · exact h1 u (List.mem_of_mem_drop hu'))
        refine ⟨us', ?_, g2, g3⟩
        simp only [List.map_cons, Instr.fill, hpl, hc1]
        have : ¬ ((decide (vs.toArray.size ≠ size) || decide (off + vs.toArray.size > us.toArray.size)) = true) := by simp; omega
        rw [if_neg this, fold_splice (by omega)]
        exact g1
      · cases h
    · cases h
theorem allOne_mem {z : Value} (h : allOne z = true) : ∀ u ∈ z.cells.toList, u.oneCell' = true := fun u hu => List.all_eq_true.1 h u hu
theorem places_of {t : Nat} {fs : List (Nat × Nat)} (h : kdOk P t (.struct fs)) : ∃ fields, P.underlying t = some (.struct fields) ∧ fields.toList.mapM (fun f => (P.info? f.type).map fun i => (f.offset, i.size)) = some fs := by
  simp only [kdOk] at h
  split at h
  · rename_i fields hu
    injection h with h
    refine ⟨fields, hu, ?_⟩
    clear hu
    generalize fields.toList = l at *
    induction l generalizing fs with
    | nil =>
      cases fs with
      | nil => rfl
      | cons x fs => simp at h
    | cons f l ih =>
      cases fs with
      | nil => simp at h
      | cons x fs =>
        simp only [List.map_cons, List.cons.injEq, Prod.mk.injEq] at h
        obtain ⟨⟨h1, h2⟩, h3⟩ := h
        have ih' := ih h3
        cases hi : P.info? f.type with
        | none => rw [hi] at h2; cases h2
        | some j =>
          rw [hi] at h2
          simp only [Option.map_some, Option.some.injEq] at h2
          rw [List.mapM_cons, ih', hi]
          simp [h1, h2]
  · cases h
theorem hd_build {t : Nat} {fs : List (Nat × Nat)} {sz bt : Nat} {z : Value} (h : TyOk P t ⟨.struct fs, sz, z, bt⟩) {parts : Array (Nat × Operand)} (ho : o.op = .build t parts) {cs : List V} (hf : fillV (fs[·]?) (zcells z) (parts.toList.map fun (i, x) => (i, e x)) = some cs) (h1 : allOne z = true) :
    HD P o e st nm (.agg cs) none := HD.val fun B E ρ h3 _ => by
  obtain ⟨us, g1, g2, g3⟩ := fill_ok (E := E) (ρ := ρ) hf (fun p hp => h3 p.2 (by
    simp only [ho, Op.operands]
    simp only [List.mem_toArray, List.mem_map]
    exact ⟨p, hp, rfl⟩)) (RVL.const _) (allOne_mem h1)
  obtain ⟨fields, hu, hp⟩ := places_of h.2
  refine ⟨.agg us.toArray, ?_, by simp only [RV]; exact ⟨us, rfl, g2, g3⟩⟩
  have hb : P.built t (parts.map fun (i, x) => (i, ρ x)).toList = some us.toArray := by
    have h4 := h.1
    unfold Program.built
    cases hi : P.info? t with
    | none => rw [hi] at h4; cases h4
    | some j =>
      rw [hi] at h4
      simp only [Option.map_some, Option.some.injEq, Prod.mk.injEq] at h4
      simp only [hu, h4.2, hp]
      have : (fun (x : Nat) => fs.toArray[x]?) = fun (x : Nat) => fs[x]? := by funext x; simp
      rw [this]
      simpa using g1
  simp only [execOp, ho, Sem.run_bind, run_build _ _ _ _ hb]
  rfl
theorem hd_buildA {t n el : Nat} {sz bt bt' : Nat} {z z' : Value} {kd : TyK} (h : TyOk P t ⟨.arr n el, sz, z, bt⟩) (hel : TyOk P el ⟨kd, 1, z', bt'⟩) {parts : Array (Nat × Operand)} (ho : o.op = .build t parts) {cs : List V} (hf : fillV (fun i => some (i, 1)) (zcells z) (parts.toList.map fun (i, x) => (i, e x)) = some cs) (h1 : allOne z = true) :
    HD P o e st nm (.agg cs) none := HD.val fun B E ρ h3 _ => by
  obtain ⟨us, g1, g2, g3⟩ := fill_ok (E := E) (ρ := ρ) hf (fun p hp => h3 p.2 (by
    simp only [ho, Op.operands]
    simp only [List.mem_toArray, List.mem_map]
    exact ⟨p, hp, rfl⟩)) (RVL.const _) (allOne_mem h1)
  refine ⟨.agg us.toArray, ?_, by simp only [RV]; exact ⟨us, rfl, g2, g3⟩⟩
  have hb : P.built t (parts.map fun (i, x) => (i, ρ x)).toList = some us.toArray := by
    have h4 := h.1
    have hu : P.underlying t = some (.array n el) := h.2
    have h5 := hel.size
    unfold Program.built
    cases hi : P.info? t with
    | none => rw [hi] at h4; cases h4
    | some j =>
      cases hi2 : P.info? el with
      | none => rw [hi2] at h5; cases h5
      | some j2 =>
        rw [hi] at h4
        rw [hi2] at h5
        simp only [Option.map_some, Option.some.injEq, Prod.mk.injEq] at h4 h5
        simp only [hu, h4.2, hi2, h5, Nat.mul_one]
        simpa using g1
  simp only [execOp, ho, Sem.run_bind, run_build _ _ _ _ hb]
  rfl
/-- cells more -/
def Ft.add (F : Ft) (b n : Nat) : Ft := ⟨fun x o => F.c x o ∨ (x = b ∧ o < n), F.m⟩
theorem Ft.add_new {F : Ft} {w w' : World} {n : Nat} (h : w.heap.size < w'.heap.size) : FtNew F (F.add w.heap.size n) w w' :=
  ⟨⟨fun _ _ h => .inl h, fun _ h => h⟩, fun b o hb => hb.imp id (fun h2 => ⟨by omega, by omega⟩), fun _ h => .inl h⟩
theorem rowV_ok {sz n : Nat} : ∀ {parts : List (Nat × Operand)} {k : Nat} {es : List (List D)} {us : List Value}, rowV sz k (parts.map fun (i, x) => (i, e x)) = some es → (∀ p ∈ parts, RV E (e p.2) (ρ p.2)) → us.length = n * sz → k + es.length = n →
    ∃ vs : List Value, Instr.fill (fun i => some (i * sz, sz)) us.toArray (parts.map fun (i, x) => (i, ρ x)) = some (us.take (k * sz) ++ vs).toArray ∧ RDL E.F E.w es.flatten vs ∧ (∀ u ∈ vs, u.oneCell' = true) ∧ (∀ x ∈ es, x.length = sz) ∧ vs.length = es.length * sz
  | [], k, es, us, h, _, hl, hn => by
    simp [rowV] at h
    subst h
    refine ⟨[], ?_, by simp [RDL], by simp, by simp, by simp⟩
    simp only [List.map_nil, Instr.fill, List.append_nil]
    rw [List.take_of_length_le (by rw [hl]; simp at hn; rw [hn]; exact Nat.le_refl _)]
  | (i, x) :: parts, k, es, us, h, hp, hl, hn => by
    simp only [List.map_cons, rowV] at h
    split at h
    · rename_i cs hvc
      split at h
      · rename_i ds hds
        split at h
        · rename_i hk
          obtain ⟨rfl, hsz⟩ := hk
          cases hr : rowV sz (i + 1) (parts.map fun (i, x) => (i, e x)) with
          | none => rw [hr] at h; cases h
          | some es' =>
            rw [hr] at h
            simp only [Option.map_some, Option.some.injEq] at h
            subst h
            simp only [List.length_cons] at hn
            obtain ⟨vs0, hc1, hc2, hc3⟩ := vcells_ok hvc (hp (i, x) (by simp))
            have hd := toDs_ok hds hc2
            have hl0 := hd.len
            have hle : i * sz + sz ≤ us.length := by
              rw [hl]
              calc i * sz + sz = (i + 1) * sz := by rw [Nat.add_mul, Nat.one_mul]
                _ ≤ n * sz := Nat.mul_le_mul_right _ (by omega)
            obtain ⟨vs, g1, g2, g3, g4, g5⟩ := rowV_ok (n := n) (us := spliceU us (i * sz) vs0) hr (fun p hp' => hp p (by simp [hp'])) (by
              unfold spliceU
              simp only [List.length_append, List.length_take, List.length_drop]
              omega) (by omega)
            refine ⟨vs0 ++ vs, ?_, by simpa using hd.append g2, ?_, ?_, ?_⟩
            · simp only [List.map_cons, Instr.fill, hc1]
              have : ¬ ((decide (vs0.toArray.size ≠ sz) || decide (i * sz + vs0.toArray.size > us.toArray.size)) = true) := by simp; omega
              rw [if_neg this, fold_splice (by omega), g1]
              congr 2
              rw [← List.append_assoc]
              congr 1
              unfold spliceU
              rw [Nat.add_mul, Nat.one_mul, List.take_append_of_le_length (by simp; omega), List.take_of_length_le (by simp; omega)]
            · intro u hu
              rcases List.mem_append.1 hu with hu | hu
              · exact hc3 u hu
              · exact g3 u hu
            · intro y hy
              rcases List.mem_cons.1 hy with rfl | hy
              · exact hsz
              · exact g4 y hy
            · rw [List.length_append, g5, List.length_cons, Nat.add_mul]; omega
        · cases h
      · cases h
    · cases h
theorem rowW_ok {sz n : Nat} : ∀ {parts : List (Nat × Operand)} {k : Nat} {es : List (List V)} {us : List Value}, rowW sz k (parts.map fun (i, x) => (i, e x)) = some es → (∀ p ∈ parts, RV E (e p.2) (ρ p.2)) → us.length = n * sz → k + es.length = n →
    ∃ vs : List Value, Instr.fill (fun i => some (i * sz, sz)) us.toArray (parts.map fun (i, x) => (i, ρ x)) = some (us.take (k * sz) ++ vs).toArray ∧ RVL E es.flatten vs ∧ (∀ u ∈ vs, u.oneCell' = true) ∧ (∀ x ∈ es, x.length = sz) ∧ vs.length = es.length * sz
  | [], k, es, us, h, _, hl, hn => by
    simp [rowW] at h
    subst h
    refine ⟨[], ?_, by simp [RVL], by simp, by simp, by simp⟩
    simp only [List.map_nil, Instr.fill, List.append_nil]
    rw [List.take_of_length_le (by rw [hl]; simp at hn; rw [hn]; exact Nat.le_refl _)]
  | (i, x) :: parts, k, es, us, h, hp, hl, hn => by
    simp only [List.map_cons, rowW] at h
    split at h
    · rename_i cs hvc
      split at h
      · rename_i hk
        obtain ⟨rfl, hsz⟩ := hk
        cases hr : rowW sz (i + 1) (parts.map fun (i, x) => (i, e x)) with
        | none => rw [hr] at h; cases h
        | some es' =>
          rw [hr] at h
          simp only [Option.map_some, Option.some.injEq] at h
          subst h
          simp only [List.length_cons] at hn
          obtain ⟨vs0, hc1, hc2, hc3⟩ := vcells_ok hvc (hp (i, x) (by simp))
          have hl0 := hc2.len
          have hle : i * sz + sz ≤ us.length := by
            rw [hl]
            calc i * sz + sz = (i + 1) * sz := by rw [Nat.add_mul, Nat.one_mul]
              _ ≤ n * sz := Nat.mul_le_mul_right _ (by omega)
          obtain ⟨vs, g1, g2, g3, g4, g5⟩ := rowW_ok (n := n) (us := spliceU us (i * sz) vs0) hr (fun p hp' => hp p (by simp [hp'])) (by
            unfold spliceU
            simp only [List.length_append, List.length_take, List.length_drop]
            omega) (by omega)
          refine ⟨vs0 ++ vs, ?_, by simpa using hc2.append g2, ?_, ?_, ?_⟩
          · simp only [List.map_cons, Instr.fill, hc1]
            have : ¬ ((decide (vs0.toArray.size ≠ sz) || decide (i * sz + vs0.toArray.size > us.toArray.size)) = true) := by simp; omega
            rw [if_neg this, fold_splice (by omega), g1]
            congr 2
            rw [← List.append_assoc]
            congr 1
            unfold spliceU
            rw [Nat.add_mul, Nat.one_mul, List.take_append_of_le_length (by simp; omega), List.take_of_length_le (by simp; omega)]
          · intro u hu
            rcases List.mem_append.1 hu with hu | hu
            · exact hc3 u hu
            · exact g3 u hu
          · intro y hy
            rcases List.mem_cons.1 hy with rfl | hy
            · exact hsz
            · exact g4 y hy
          · rw [List.length_append, g5, List.length_cons, Nat.add_mul]; omega
      · cases h
    · cases h
theorem hd_box {t : Nat} {x : Operand} (ho : o.op = .box t x) {cs : List V} (hc : vcells (e x) = some cs) : HD P o e st nm (.ptr nm 0) (some (.cells t cs)) :=
  HD.new fun B E ρ h1 _ hl hB hn => by
    obtain ⟨us, g1, g2, g3⟩ := vcells_ok hc (h1 x (by simp [Op.operands, ho]))
    have hstep : HStep E (E.name nm (.pointer (some ⟨E.w.heap.size, 0, none⟩)) E.F (E.w.alloc (.cells us.toArray t))) nm := hstep_name (below_alloc _ _) FtNew.same
    refine ⟨.pointer (some ⟨E.w.heap.size, 0, none⟩), E.name nm (.pointer (some ⟨E.w.heap.size, 0, none⟩)) E.F (E.w.alloc (.cells us.toArray t)), ?_, hstep, ?_, ?_⟩
    · simp only [execOp, ho, Instr.box, Sem.run_bind, newVar, newRow, g1]
      rfl
    · simp only [RV]
      exact ⟨_, by simp [Env.name], rfl⟩
    · exact ⟨.pointer (some ⟨E.w.heap.size, 0, none⟩), by simp [Env.name], fun b hb => by cases hb; exact Nat.le_refl _, _, us, by simp [Env.name], heap_alloc_new _ _, RVL.mono (hstep.ext hl hn) _ _ g2, g3, okB_new hl hB rfl (by simp)⟩
theorem hd_buildSlice {t len el : Nat} {i : TyI} (ht : P.underlying t = some (.slice el)) (hi : TyOk P el i) {parts : Array (Nat × Operand)} (ho : o.op = .buildSlice t len parts) {es : List (List D)} (hr : rowV i.sz 0 (parts.toList.map fun (i, x) => (i, e x)) = some es) (hlen : es.length = len) (h24 : len * i.sz ≤ 16777216) (hpos : 0 < i.sz) (hz : i.z.cells.size = i.sz) :
    HD P o e st nm (.ow nm i.sz (zD i.z) es) (some (.tok el i.sz len)) :=
  HD.new fun B E ρ h1 _ hl hB hn => by
    obtain ⟨vs, g1, g2, g3, g4, g5⟩ := rowV_ok (E := E) (ρ := ρ) (n := len) (us := (List.range (len * i.sz)).map fun m => i.z.cells[m % i.z.cells.size]!) hr (fun p hp => h1 p.2 (by
      simp only [ho, Op.operands]
      simp only [List.mem_toArray, List.mem_map]
      exact ⟨p, hp, rfl⟩)) (by simp) (by omega)
    simp only [Nat.zero_mul, List.take_zero, List.nil_append] at g1
    have hw : E.w.heap.size < (E.w.alloc (.cells vs.toArray el)).heap.size := by simp
    have hstep : HStep E (E.name nm (.slice (some ⟨E.w.heap.size, 0, none⟩) len len) (E.F.add E.w.heap.size (len * i.sz)) (E.w.alloc (.cells vs.toArray el))) nm := hstep_name (below_alloc _ _) (Ft.add_new hw)
    have hext := hstep.ext hl hn
    have hcell : ∀ j u, vs[j]? = some u → (E.w.alloc (.cells vs.toArray el)).cell? ⟨E.w.heap.size, j, none⟩ = some u := fun j u hj => by
      have := heap_alloc_new E.w (.cells vs.toArray el)
      simp only [World.cell?, this]
      simpa using hj
    have hbound : len ≤ 16777216 := by
      calc len = len * 1 := by omega
        _ ≤ len * i.sz := Nat.mul_le_mul_left _ hpos
        _ ≤ 16777216 := h24
    have hF : E.F.le (E.F.add E.w.heap.size (len * i.sz)) := ⟨fun _ _ h => .inl h, fun _ h => h⟩
    have hk : Kp E.F E.w (E.w.alloc (.cells vs.toArray el)) := hext.k
    refine ⟨.slice (some ⟨E.w.heap.size, 0, none⟩) len len, _, ?_, hstep, ?_, ?_⟩
    · simp only [execOp, ho, Instr.buildSlice, Sem.run_bind, run_underlying ht, Result.andThen_ok, hi.sizeOf]
      rw [if_neg (by omega)]
      have hfill : ∀ zz : Array Value, (len * i.sz = 0 ∨ zz = i.z.cells) → Instr.fill (fun j => some (j * i.sz, i.sz)) ((Array.range (len * i.sz)).map fun m => zz[m % zz.size]!) (parts.map fun (j, x) => (j, ρ x)).toList = some vs.toArray := fun zz hzz => by
        have : (Array.range (len * i.sz)).map (fun m => zz[m % zz.size]!) = ((List.range (len * i.sz)).map fun m => i.z.cells[m % i.z.cells.size]!).toArray := by
          rcases hzz with h0 | rfl
          · rw [h0]; simp
          · rw [← Array.toArray_toList (xs := Array.map _ _)]; congr 1; simp
        rw [this, Array.toList_map]
        exact g1
      by_cases h0 : len * i.sz = 0
      · rw [if_pos h0]
        simp only [Sem.run_pure, Result.andThen_ok, hfill #[] (.inl h0), Sem.run_bind, newRow]
        rfl
      · rw [if_neg h0]
        simp only [Sem.run_bind, hi.zero, Sem.run_pure, Result.andThen_ok, hfill _ (.inr rfl), newRow]
        rfl
    · simp only [RV, RD]
      refine ⟨by simp [Env.name], some ⟨E.w.heap.size, 0, none⟩, len, by rw [hlen], by omega, by omega, ?_⟩
      refine RR.of_cells (RDL.mono hF hk _ _ g2) g4 g3 (fun j u hj => ?_)
      simp only [Nat.zero_add]
      have hjl := (List.getElem?_eq_some_iff.1 hj).1
      exact ⟨.inr ⟨rfl, by rw [← hlen, ← g5]; exact hjl⟩, hcell j u hj⟩
    · refine ⟨.slice (some ⟨E.w.heap.size, 0, none⟩) len len, by simp [Env.name], fun b hb => by cases hb; exact Nat.le_refl _, .slice (some ⟨E.w.heap.size, 0, none⟩) len len, vs, by simp [Env.name], ⟨by rw [g5, hlen], .inr ⟨E.w.heap.size, len, vs.toArray, rfl, Nat.zero_le _, heap_alloc_new _ _, Nat.le_refl _, by unfold maxLen; omega, by simp [g5, hlen], ?_⟩⟩, fun b hb => ?_⟩
      · simp only [List.toList_toArray]
        exact List.take_of_length_le (by rw [g5, hlen]; exact Nat.le_refl _)
      · cases hb
        refine ⟨.inl hB, hw, fun h => Nat.lt_irrefl _ (hl.2 E.w.heap.size h), fun o' h' => ?_⟩
        rcases h' with h' | h'
        · exact (Nat.lt_irrefl _ (hl.1 E.w.heap.size _ h')).elim
        · exact h'.2
theorem hd_buildSliceW {t len el : Nat} {i : TyI} (ht : P.underlying t = some (.slice el)) (hi : TyOk P el i) {parts : Array (Nat × Operand)} (ho : o.op = .buildSlice t len parts) {es : List (List V)} (hr : rowW i.sz 0 (parts.toList.map fun (i, x) => (i, e x)) = some es) (hlen : es.length = len) (h24 : len * i.sz ≤ 16777216) (hpos : 0 < i.sz) (hz : i.z.cells.size = i.sz) :
    HD P o e st nm (.mo nm) (some (.row el i.sz (dV (zD i.z)) es)) :=
  HD.new fun B E ρ h1 _ hl hB hn => by
    obtain ⟨vs, g1, g2, g3, g4, g5⟩ := rowW_ok (E := E) (ρ := ρ) (n := len) (us := (List.range (len * i.sz)).map fun m => i.z.cells[m % i.z.cells.size]!) hr (fun p hp => h1 p.2 (by
      simp only [ho, Op.operands]
      simp only [List.mem_toArray, List.mem_map]
      exact ⟨p, hp, rfl⟩)) (by simp) (by omega)
    simp only [Nat.zero_mul, List.take_zero, List.nil_append] at g1
    have hw : E.w.heap.size < (E.w.alloc (.cells vs.toArray el)).heap.size := by simp
    have hstep : HStep E (E.name nm (.slice (some ⟨E.w.heap.size, 0, none⟩) len len) E.F (E.w.alloc (.cells vs.toArray el))) nm := hstep_name (below_alloc _ _) FtNew.same
    have hext := hstep.ext hl hn
    have hcell : ∀ j u, vs[j]? = some u → (E.w.alloc (.cells vs.toArray el)).cell? ⟨E.w.heap.size, j, none⟩ = some u := fun j u hj => by
      have := heap_alloc_new E.w (.cells vs.toArray el)
      simp only [World.cell?, this]
      simpa using hj
    have hbound : len ≤ 16777216 := by
      calc len = len * 1 := by omega
        _ ≤ len * i.sz := Nat.mul_le_mul_left _ hpos
        _ ≤ 16777216 := h24
    have hF : E.F.le (E.F.add E.w.heap.size (len * i.sz)) := ⟨fun _ _ h => .inl h, fun _ h => h⟩
    have hk : Kp E.F E.w (E.w.alloc (.cells vs.toArray el)) := hext.k
    refine ⟨.slice (some ⟨E.w.heap.size, 0, none⟩) len len, _, ?_, hstep, ?_, ?_⟩
    · simp only [execOp, ho, Instr.buildSlice, Sem.run_bind, run_underlying ht, Result.andThen_ok, hi.sizeOf]
      rw [if_neg (by omega)]
      have hfill : ∀ zz : Array Value, (len * i.sz = 0 ∨ zz = i.z.cells) → Instr.fill (fun j => some (j * i.sz, i.sz)) ((Array.range (len * i.sz)).map fun m => zz[m % zz.size]!) (parts.map fun (j, x) => (j, ρ x)).toList = some vs.toArray := fun zz hzz => by
        have : (Array.range (len * i.sz)).map (fun m => zz[m % zz.size]!) = ((List.range (len * i.sz)).map fun m => i.z.cells[m % i.z.cells.size]!).toArray := by
          rcases hzz with h0 | rfl
          · rw [h0]; simp
          · rw [← Array.toArray_toList (xs := Array.map _ _)]; congr 1; simp
        rw [this, Array.toList_map]
        exact g1
      by_cases h0 : len * i.sz = 0
      · rw [if_pos h0]
        simp only [Sem.run_pure, Result.andThen_ok, hfill #[] (.inl h0), Sem.run_bind, newRow]
        rfl
      · rw [if_neg h0]
        simp only [Sem.run_bind, hi.zero, Sem.run_pure, Result.andThen_ok, hfill _ (.inr rfl), newRow]
        rfl
    · simp only [RV]
      exact ⟨by simp [Env.name], _, _, _, rfl⟩
    · have hln : vs.length = es.length * i.sz := g5
      refine ⟨.slice (some ⟨E.w.heap.size, 0, none⟩) len len, by simp [Env.name], fun b hb => by cases hb; exact Nat.le_refl _, .slice (some ⟨E.w.heap.size, 0, none⟩) len len, vs, by simp [Env.name], ?_, RVL.mono hext _ _ g2, g4, g3, by omega, fun b hb => by cases hb; exact okB_new hl hB rfl (by simp)⟩
      rw [hlen]
      refine ⟨by rw [g5, hlen], .inr ⟨E.w.heap.size, len, vs.toArray, rfl, Nat.zero_le _, heap_alloc_new _ _, Nat.le_refl _, by unfold maxLen; omega, by simp [g5, hlen], ?_⟩⟩
      simp only [List.toList_toArray]
      exact List.take_of_length_le (by rw [g5, hlen]; exact Nat.le_refl _)
theorem RR.cut {F : Ft} {w : World} {sz n l : Nat} {a : Option Addr} {es : List (List D)} (h : RR F w sz a es 0) (hl : l ≤ n) (hes : (es.length : Nat) ≤ n) (hl2 : n = l → es.drop l = []) : RR F w sz (if n - l = 0 then a else a.map (·.add (l * sz))) (es.drop l) 0 := by
  by_cases hnl : n - l = 0
  · rw [hl2 (by omega)]; simp [RR]
  · rw [if_neg hnl]
    cases a with
    | none => have := RR.none_nil h; subst this; simp [RR]
    | some ad =>
      have hd := h.drop l
      cases hc : es.drop l with
      | nil => simp [RR]
      | cons x xs =>
        have : es ≠ [] := by rintro rfl; simp at hc
        cases es with
        | nil => exact (this rfl).elim
        | cons y ys =>
          obtain ⟨b, o', us, hae, _⟩ := h.get (i := 0) rfl
          cases hae
          rw [← hc]
          simp only [Option.map_some, Addr.add_any]
          have := RR.shift (l * sz) (k := 0) (es := (y :: ys).drop l) (by simpa using hd)
          exact this
theorem hd_cut {t el : Nat} {i : TyI} (ht : P.underlying t = some (.slice el)) (hi : TyOk P el i) {x : Operand} {lo hi' : Option Operand} (ho : o.op = .slice t x lo hi' none) {sz : Nat} {d0 : List D} {es : List (List D)} (hx : slOf (e x) = some (sz, d0, es)) (hsz : sz = i.sz) (h : cutK G K sz d0 es (lo.map e) (hi'.map e)) : Ok P G o e st nm K := by
  refine Ok.of_none ?_
  have key : ∀ (l r : Nat) (_ : G → l ≤ r ∧ r ≤ es.length) (_ : ∀ (ρ : Operand → Value) (E : Env) (a : Option Addr) (cap : Nat), G → (∀ y ∈ o.op.operands, RV E (e y) (ρ y)) → es.length ≤ cap → (Instr.slice t (.slice a es.length cap) (lo.map ρ) (hi'.map ρ) none).run P E.w = ((sizeOf (P.elem t)).run P E.w).andThen fun s w => .ok (sliced a l r cap s) w),
      G → HD P o e st nm (.d (.sl sz d0 ((es.take r).drop l))) none := fun l r hlr hrun hG => HD.val fun B E ρ h1 _ => by
    have hrx := slOf_ok hx (h1 x (by simp [Op.operands, ho]))
    simp only [RD] at hrx
    obtain ⟨a, cap, hv, h3, h4, h5⟩ := hrx
    obtain ⟨h6, h7⟩ := hlr hG
    refine ⟨sliced a l r cap sz, ?_, ?_⟩
    · simp only [execOp, ho, hv, Sem.run_bind, Option.map_none]
      rw [run_sliceAt_slice _ _ _ _ _ _ (elem_of ht), hrun ρ E a cap hG h1 h3, elem_eq ht, hi.sizeOf, hsz]
      rfl
    · simp only [RV, RD, sliced]
      have hlen : ((es.take r).drop l).length = r - l := by simp; omega
      refine ⟨_, cap - l, by rw [hlen], by rw [hlen]; omega, by rw [hlen]; omega, ?_⟩
      have := RR.cut (n := cap) (l := l) (h5.take r) (by omega) (by simp; omega) (fun e => by
        apply List.drop_eq_nil_of_le; simp; omega)
      by_cases hcl : cap = l
      · rw [if_pos hcl]
        rw [if_pos (by omega)] at this
        exact this
      · rw [if_neg hcl]
        rw [if_neg (by omega)] at this
        exact this
  have lit : ∀ {z : Operand} {k : IntKind} {n : Int} {E : Env} {v : Value}, e z = .d (.c (.int k n)) → RV E (e z) v → v = .int k n := fun hz hv => by rw [hz] at hv; simpa only [RV, RD] using hv
  unfold cutK at h
  split at h <;> try exact h.elim
  · rename_i h1 h2
    cases lo with
    | some _ => cases h1
    | none =>
    cases hi' with
    | some _ => cases h2
    | none =>
    refine ⟨_, h, fun hG => ?_⟩
    have := key 0 es.length (fun _ => ⟨Nat.zero_le _, Nat.le_refl _⟩) (fun ρ E a cap _ _ hc => by simpa using run_slice_all _ _ _ _ _ (elem_of ht)) hG
    simpa using this
  · rename_i k l h1 h2
    cases lo with
    | none => cases h1
    | some z =>
    cases hi' with
    | some _ => cases h2
    | none =>
    simp only [Option.map_some, Option.some.injEq] at h1
    refine ⟨_, h.2, fun hG => ?_⟩
    obtain ⟨g1, g2⟩ := h.1 hG
    have := key l.toNat es.length (fun _ => ⟨by omega, Nat.le_refl _⟩) (fun ρ E a cap _ hop hc => by
      have hz := lit h1 (hop z (by simp [Op.operands, ho]))
      simp only [Option.map_some, Option.map_none, hz]
      exact run_slice_l _ _ _ _ _ (elem_of ht) _ _ g1 g2) hG
    simpa using this
  · rename_i k r h1 h2
    cases lo with
    | some _ => cases h1
    | none =>
    cases hi' with
    | none => cases h2
    | some z =>
    simp only [Option.map_some, Option.some.injEq] at h2
    refine ⟨_, h.2, fun hG => ?_⟩
    obtain ⟨g1, g2⟩ := h.1 hG
    have := key 0 r.toNat (fun _ => ⟨Nat.zero_le _, by omega⟩) (fun ρ E a cap _ hop hc => by
      have hz := lit h2 (hop z (by simp [Op.operands, ho]))
      simp only [Option.map_some, Option.map_none, hz]
      exact run_slice_h _ _ _ _ _ (elem_of ht) _ _ g1 (by omega)) hG
    simpa using this
  · rename_i k l k' r h1 h2
    cases lo with
    | none => cases h1
    | some z =>
    cases hi' with
    | none => cases h2
    | some y =>
    simp only [Option.map_some, Option.some.injEq] at h1 h2
    refine ⟨_, h.2, fun hG => ?_⟩
    obtain ⟨g1, g2, g3⟩ := h.1 hG
    exact key l.toNat r.toNat (fun _ => ⟨by omega, by omega⟩) (fun ρ E a cap _ hop hc => by
      have hz := lit h1 (hop z (by simp [Op.operands, ho]))
      have hy := lit h2 (hop y (by simp [Op.operands, ho]))
      simp only [Option.map_some, hz, hy]
      exact run_slice_lh _ _ _ _ _ (elem_of ht) _ _ _ _ g1 g2 (by omega)) hG
theorem hd_clip {t el : Nat} {i : TyI} (ht : P.underlying t = some (.slice el)) (hi : TyOk P el i) {x hh mm : Operand} (ho : o.op = .slice t x none (some hh) (some mm)) {sz : Nat} {d0 : List D} {es : List (List D)} (hx : slOf (e x) = some (sz, d0, es)) (hsz : sz = i.sz) {k k' : IntKind} {a b : Int} (ha : e hh = .d (.c (.int k a))) (hb : e mm = .d (.c (.int k' b)))
    (h0 : 0 ≤ a) (h1 : a ≤ b) (h2 : b ≤ es.length) : HD P o e st nm (.d (.sl sz d0 (es.take a.toNat))) none := HD.val fun B E ρ h3 _ => by
  have hrx := slOf_ok hx (h3 x (by simp [Op.operands, ho]))
  have ra := h3 hh (by simp [Op.operands, ho])
  have rb := h3 mm (by simp [Op.operands, ho])
  rw [ha] at ra
  rw [hb] at rb
  simp only [RV, RD] at ra rb
  simp only [RD] at hrx
  obtain ⟨ad, cap, hv, h4, h5, h6⟩ := hrx
  refine ⟨sliced ad 0 a.toNat b.toNat sz, ?_, ?_⟩
  · simp only [execOp, ho, hv, Sem.run_bind, Option.map_none, Option.map_some, ra, rb]
    rw [run_sliceAt_slice _ _ _ _ _ _ (elem_of ht), run_slice_hm _ _ _ _ _ (elem_of ht) _ _ _ _ h0 h1 (by omega), elem_eq ht, hi.sizeOf, hsz]
    rfl
  · simp only [RV, RD, sliced]
    have hlen : (es.take a.toNat).length = a.toNat := by simp; omega
    refine ⟨_, b.toNat, by rw [hlen]; rfl, by rw [hlen]; omega, by rw [hlen]; omega, ?_⟩
    have := RR.cut (n := b.toNat) (l := 0) (h6.take a.toNat) (by omega) (by simp; omega) (fun e => by
      have : a.toNat = 0 := by omega
      rw [this]; simp)
    simp only [Nat.sub_zero, List.drop_zero] at this
    by_cases hb0 : b.toNat = 0
    · rw [if_pos hb0]; rw [if_pos hb0] at this; exact this
    · rw [if_neg hb0]; rw [if_neg hb0] at this; exact this
theorem hd_field {s f d sz1 : Nat} {fs : List (Nat × Nat)} {sz bt : Nat} {z : Value} (h : TyOk P s ⟨.struct fs, sz, z, bt⟩) (hf : fs[f]? = some (d, sz1)) {x : Operand} (ho : o.op = .field s x f) {cs : List V} {c : V} (hx : e x = .agg cs) (hc : cs[d]? = some c) (h1 : FieldOne P s f) : HD P o e st nm c none := HD.val fun B E ρ h3 _ => by
  have hr := h3 x (by simp [Op.operands, ho])
  rw [hx] at hr
  simp only [RV] at hr
  obtain ⟨us, hu, hl, _⟩ := hr
  obtain ⟨u, g1, g2⟩ := hl.get hc
  obtain ⟨fields, fl, k1, k2, k3⟩ := h1
  obtain ⟨fields', fl', m1, m2, m3, _⟩ := kd_struct h.2 hf
  rw [k1] at m1
  cases m1
  rw [k2] at m2
  cases m2
  refine ⟨u, ?_, g2⟩
  cases hq : P.underlying fl.type with
  | none => rw [hq] at k3; cases k3
  | some td =>
    rw [hq] at k3
    have hagg : ∀ w, (isAgg fl.type).run P w = .ok false w := fun w => by
      unfold Go.isAgg
      rw [Sem.run_bind, run_underlying hq w]
      cases td <;> simp_all [TypeDesc.isRow]
    have hcell : us.toArray[fl.offset]? = some u := by rw [m3]; simpa using g1
    simp only [execOp, ho, Instr.field, hu, Sem.run_bind, run_underlying k1, Result.andThen_ok, k2, asAgg, Sem.run_pure, part, hagg, Bool.false_eq_true, if_false, hcell]
theorem ofC_okz (E : Env) (v : Value) (h : allOne v = true) : RV E (ofC v) v := by
  cases v <;> simp only [ofC, RV, RD]
  rename_i cs
  refine ⟨cs.toList, by simp, RVL.of_data ?_, fun u hu => List.all_eq_true.1 h u hu⟩
  generalize cs.toList = l
  induction l with
  | nil => simp [RDL]
  | cons u l ih => simp only [List.map_cons, RDL, RD]; exact ⟨u, l, rfl, rfl, ih⟩
theorem hd_makeMap {t k : Nat} {i : TyI} {q : KQ} (ho : o.op = .makeMap t none) (h1 : allOne i.z = true) : HD P o e st nm (.mp nm) (some (.map q k i.z (ofC i.z) [])) :=
  HD.new fun B E ρ _ _ hl hB hn => by
    have hstep : HStep E (E.name nm (.map (some E.w.heap.size)) E.F (E.w.alloc (.map #[] 0))) nm := hstep_name (below_alloc _ _) FtNew.same
    refine ⟨.map (some E.w.heap.size), E.name nm (.map (some E.w.heap.size)) E.F (E.w.alloc (.map #[] 0)), ?_, hstep, ?_, ?_⟩
    · simp only [execOp, ho, Option.map_none, Sem.run_bind, run_makeMap]
      rfl
    · simp only [RV]
      exact ⟨by simp [Env.name], _, rfl⟩
    · refine ⟨.map (some E.w.heap.size), by simp [Env.name], fun b hb => by cases hb; exact Nat.le_refl _, _, #[], 0, by simp [Env.name], heap_alloc_new _ _, trivial, List.nodup_nil, ofC_okz _ i.z h1, okB_new hl hB rfl (by simp)⟩
theorem hd_makeFunc {f : FuncId} {cs : Array Operand} (ho : o.op = .makeFunc (.func f) #[] cs) : HD P o e st nm (.fn f (cs.toList.map e)) none := HD.val fun B E ρ h1 _ => by
  have hm : cs.map ρ = (cs.toList.map ρ).toArray := by rw [← Array.toList_map, Array.toArray_toList]
  refine ⟨.func (.func f) #[] (cs.toList.map ρ).toArray, ?_, ?_⟩
  · rw [← hm]; simp [execOp, ho, Instr.makeFunc]
  · simp only [RV]
    exact ⟨_, rfl, RVL.of_forall _ (fun x hx => h1 x (by simp [ho, Op.operands, Array.mem_toList_iff.1 hx]))⟩
/-- each operation that hop knows does as hop says -/
theorem hop_ok (hT : TabOk P T) (h : hop P T G o.op e st nm K) : Ok P G o e st nm K := by
  unfold hop at h
  generalize ho : o.op = op at h
  cases op <;> simp only at h <;> try exact h.elim
  case move x => exact ⟨_, none, h, fun _ => hd_move ho⟩
  case assign x => exact ⟨_, none, h, fun _ => hd_assign ho⟩
  case pick c x y => exact ok_pick ho h
  case alloc t =>
    split at h <;> try exact h.elim
    rename_i i hi
    exact ⟨_, _, h.2, fun _ => hd_alloc (ty_ok hT hi) ho h.1⟩
  case build t parts =>
    split at h <;> try exact h.elim
    · rename_i fs sz z bt hi
      split at h <;> try exact h.elim
      rename_i cs hf
      exact ⟨_, none, h.2, fun _ => hd_build (ty_ok hT hi) ho hf h.1⟩
    · rename_i n el sz z bt hi
      split at h <;> try exact h.elim
      rename_i kd z' bt' hel
      split at h <;> try exact h.elim
      rename_i cs hf
      exact ⟨_, none, h.2, fun _ => hd_buildA (ty_ok hT hi) (ty_ok hT hel) ho hf h.1⟩
  case load t x =>
    split at h <;> try exact h.elim
    rename_i i hi
    exact ok_ld (ty_ok hT hi) ho h
  case binOp op xt x y yt => exact ok_bin hT ho h
  case unOp op t x =>
    split at h <;> simp_all
    exact ok_not ho h
  case convert s t x =>
    split at h <;> try exact h.elim
    rename_i j k hs hk
    unfold tyInt at hk
    split at hk <;> try (cases hk; done)
    rename_i k' sz z bt ht
    cases hk
    exact ok_cv (ty_ok hT hs) (ty_ok hT ht).2 ho h
  case fieldAddr s x f =>
    split at h <;> try exact h.elim
    rename_i fs sz z bt hi
    split at h <;> try exact h.elim
    rename_i d s' hf
    obtain ⟨v, h1, h2⟩ := hd_fieldAddr (st := st) (nm := nm) (ty_ok hT hi) hf h.1 ho h.2
    exact ⟨v, none, h1, fun _ => h2⟩
  case indexAddr t x y =>
    split at h <;> try exact h.elim
    rename_i el sz z bt hi
    split at h <;> try exact h.elim
    rename_i i hi2
    exact ok_ix (ty_ok hT hi).2 (ty_ok hT hi2) ho h
  case extract x i => exact ok_ex ho h
  case field s x f =>
    split at h <;> try exact h.elim
    rename_i fs sz z bt cs hi hx
    split at h <;> try exact h.elim
    rename_i d sz1 hf
    split at h <;> try exact h.elim
    rename_i c hc
    rw [List.head?_drop] at hc
    exact ⟨_, none, h.2, fun _ => hd_field (ty_ok hT hi) hf ho hx hc h.1⟩
  case makeMap t r =>
    cases r <;> simp only at h <;> try exact h.elim
    split at h <;> try exact h.elim
    split at h <;> try exact h.elim
    split at h <;> try exact h.elim
    exact ⟨_, _, h.2, fun _ => hd_makeMap ho h.1⟩
  case lookup t m x b =>
    split at h <;> try exact h.elim
    rename_i k el sz z bt hi1
    split at h <;> try exact h.elim
    rename_i i hi2
    exact ok_look (ty_ok hT hi1).2 (ty_ok hT hi2) ho h
  case box t x =>
    split at h <;> try exact h.elim
    rename_i cs hc
    exact ⟨_, _, h, fun _ => hd_box ho hc⟩
  case slice t x lo hi mx =>
    cases mx with
    | none =>
      simp only at h
      split at h <;> try exact h.elim
      rename_i el sz z bt hi1
      split at h <;> try exact h.elim
      rename_i i sz' d0 es hi2 hx
      exact hd_cut (ty_ok hT hi1).2 (ty_ok hT hi2) ho hx h.1 h.2
    | some mm =>
      cases lo with
      | some _ => simp only at h
      | none =>
      cases hi with
      | none => simp only at h
      | some hh =>
      simp only at h
      split at h <;> try exact h.elim
      rename_i el sz z bt hi1
      split at h <;> try exact h.elim
      rename_i i sz' d0 es k a k' b hi2 hx ha hb
      exact ⟨_, none, h.2.2, fun hG => hd_clip (ty_ok hT hi1).2 (ty_ok hT hi2) ho hx h.1 ha hb (h.2.1 hG).1 (h.2.1 hG).2.1 (h.2.1 hG).2.2⟩
  case buildSlice t len parts =>
    split at h <;> try exact h.elim
    rename_i el sz z bt hi1
    split at h <;> try exact h.elim
    rename_i i hi2
    split at h <;> try exact h.elim
    · rename_i es hr
      exact ⟨_, _, h.2, fun _ => hd_buildSlice (ty_ok hT hi1).2 (ty_ok hT hi2) ho hr h.1.1 h.1.2.1 h.1.2.2.1 h.1.2.2.2⟩
    split at h <;> try exact h.elim
    rename_i es hr
    exact ⟨_, _, h.2, fun _ => hd_buildSliceW (ty_ok hT hi1).2 (ty_ok hT hi2) ho hr h.1.1 h.1.2.1 h.1.2.2.1 h.1.2.2.2⟩
  case makeFunc fn fs cs =>
    cases fn <;> simp only at h <;> try exact h.elim
    obtain ⟨rfl, h⟩ := h
    exact ⟨_, none, h, fun _ => hd_makeFunc ho⟩
  case call c =>
    split at h <;> try exact h.elim
    · rename_i hc; exact ok_bi hT ho hc h
    · rename_i hc; exact ok_call ho hc h
end
end Go.Proofs.Ytfmefdeldgmhpaa

namespace Go.Proofs.Ytfmefdeldgmhpaa
set_option linter.unusedVariables false
set_option linter.unusedSimpArgs false
open Go.RowKit
section
variable {P : Program} {B : Base} {E E' : Env} {nm n : Nat}
theorem okB.keep {b : Nat} {p : Nat → Prop} (h : okB B E b p) (hs : E.w.heap.size ≤ E'.w.heap.size) (hF : FtNew E.F E'.F E.w E'.w) : okB B E' b p :=
  ⟨h.1, Nat.lt_of_lt_of_le h.2.1 hs, fun hm => (hF.m b hm).elim h.2.2.1 (fun h2 => by have := h.2.1; omega), fun o ho => (hF.c b o ho).elim (h.2.2.2 o) (fun h2 => by have := h.2.1; omega)⟩
/-- what lies in other blocks lies on -/
theorem RBk.keep {x : Blk} (h : RBk P B E n x) (hη : ∀ v, E.η n = some v → E'.η n = some v) (he : Ext E E') (hs : E.w.heap.size ≤ E'.w.heap.size) (hb : ∀ v b, E.η n = some v → hb v = some b → b < E.w.heap.size → E'.w.heap[b]? = E.w.heap[b]?)
    (hok : ∀ v b p, E.η n = some v → Go.Proofs.Ytfmefdeldgmhpaa.hb v = some b → okB B E b p → okB B E' b p) : RBk P B E' n x := by
  cases x with
  | cells t cs =>
    obtain ⟨b, us, h1, h2, h3, h4, h5⟩ := h
    exact ⟨b, us, hη _ h1, (hb _ _ h1 rfl h5.2.1).trans h2, RVL.mono he _ _ h3, h4, hok _ _ _ h1 rfl h5⟩
  | tok e sz len =>
    obtain ⟨v, us, h1, h2, h3⟩ := h
    refine ⟨v, us, hη _ h1, ⟨h2.1, ?_⟩, fun b hb' => hok _ _ _ h1 hb' (h3 b hb')⟩
    rcases h2.2 with hn | ⟨g, cap, cur, rfl, h4, h5, h6⟩
    · exact .inl hn
    · exact .inr ⟨g, cap, cur, rfl, h4, (hb _ g h1 rfl (h3 g rfl).2.1).trans h5, h6⟩
  | row e sz d0 es =>
    obtain ⟨v, us, h1, h2, h3, h4, h5, h6, h7⟩ := h
    refine ⟨v, us, hη _ h1, ⟨h2.1, ?_⟩, RVL.mono he _ _ h3, h4, h5, h6, fun b hb' => hok _ _ _ h1 hb' (h7 b hb')⟩
    rcases h2.2 with hn | ⟨g, cap, cur, rfl, k4, k5, k6⟩
    · exact .inl hn
    · exact .inr ⟨g, cap, cur, rfl, k4, (hb _ g h1 rfl (h7 g rfl).2.1).trans k5, k6⟩
  | map q k zv z0 es =>
    obtain ⟨b, ms, clock, h1, h2, h3, h4, h5, h6⟩ := h
    exact ⟨b, ms, clock, hη _ h1, (hb _ _ h1 rfl h6.2.1).trans h2, h3.mono he, h4, RV.mono he _ _ h5, hok _ _ _ h1 rfl h6⟩
  | loop L st pe =>
    obtain ⟨b, rec, h1, h2, h3, h6⟩ := h
    exact ⟨b, rec, hη _ h1, (hb _ _ h1 rfl h6.2.1).trans h2, h3, hok _ _ _ h1 rfl h6⟩
theorem RBk.blk {x : Blk} (h : RBk P B E n x) {v : Value} {b : Nat} (hv : E.η n = some v) (hb' : hb v = some b) : ∃ p, okB B E b p := by
  cases x with
  | cells t cs => obtain ⟨b', us, h1, _, _, _, h5⟩ := h; rw [hv] at h1; cases h1; cases hb'; exact ⟨_, h5⟩
  | tok e sz len => obtain ⟨v', us, h1, h2, h3⟩ := h; rw [hv] at h1; cases h1; exact ⟨_, h3 b hb'⟩
  | row e sz d0 es => obtain ⟨v', us, h1, _, _, _, _, _, h7⟩ := h; rw [hv] at h1; cases h1; exact ⟨_, h7 b hb'⟩
  | map q k zv z0 es => obtain ⟨b', ms, clock, h1, _, _, _, _, h6⟩ := h; rw [hv] at h1; cases h1; cases hb'; exact ⟨_, h6⟩
  | loop L st pe => obtain ⟨b', rec, h1, _, _, h6⟩ := h; rw [hv] at h1; cases h1; cases hb'; exact ⟨_, h6⟩
theorem RBk.nodp {x : Blk} (h : RBk P B E n x) {v : Value} {b : Nat} (hv : E.η n = some v) (hb' : hb v = some b) : E.w.heap[b]? ≠ some (.deferred (some [])) := by
  have row : ∀ {e sz len us}, E.w.ownsRow 0 e sz v len us → E.w.heap[b]? ≠ some (.deferred (some [])) := fun h => by
    rcases h.2 with ⟨rfl, _⟩ | ⟨g, cap, cur, rfl, _, h3, _⟩
    · cases hb'
    · cases hb'; rw [h3]; simp
  cases x with
  | cells t cs => obtain ⟨b', us, h1, h2, _⟩ := h; rw [hv] at h1; cases h1; cases hb'; rw [h2]; simp
  | tok e sz len => obtain ⟨v', us, h1, h2, h3⟩ := h; rw [hv] at h1; cases h1; exact row h2
  | row e sz d0 es => obtain ⟨v', us, h1, h2, _⟩ := h; rw [hv] at h1; cases h1; exact row h2
  | map q k zv z0 es => obtain ⟨b', ms, clock, h1, h2, _⟩ := h; rw [hv] at h1; cases h1; cases hb'; rw [h2]; simp
  | loop L st pe => obtain ⟨b', rec, h1, h2, _⟩ := h; rw [hv] at h1; cases h1; cases hb'; rw [h2]; simp
theorem GamS.lt {σ : Nat → Option Blk} {fr : Nat → Prop} (h : GamS P B σ fr E) : E.F.lt E.w := ⟨fun b o hb => (h.Fc b o hb).2, fun b hb => (h.Fm b hb).2⟩
/-- an operation that makes memory -/
theorem GamS.head {σ σ' : Nat → Option Blk} {fr fr' : Nat → Prop} {x : Option Blk} (h : GamS P B σ fr E) (hs : HStep E E' nm) (hx : NewB P B E E' nm x) (hn : fr nm) (hσ : ∀ n, σ' n = if n = nm then (match x with | some y => some y | none => σ nm) else σ n) (hσn : σ nm = none)
    (hfr : ∀ n, fr' n → fr n ∧ (x.isSome = true → n ≠ nm)) : GamS P B σ' fr' E' := by
  have hext := hs.ext h.lt (h.fresh nm hn)
  have hF : ∀ b, b < E.w.heap.size → E'.w.heap[b]? = E.w.heap[b]? := fun b hb => hs.by_.block b hb
  have old : ∀ m y, m ≠ nm → σ' m = some y → σ m = some y := fun m y hm hy => by rw [hσ, if_neg hm] at hy; exact hy
  have atn : ∀ y, σ' nm = some y → x = some y := fun y hy => by
    rw [hσ, if_pos rfl] at hy
    cases x with
    | none => simp only [hσn] at hy; cases hy
    | some z => simpa using hy
  refine ⟨hs.by_.os.trans h.os, hs.by_.tape.trans h.tape, hs.by_.output.trans h.output, Nat.le_trans h.size hs.by_.size, fun b hb hS => (hF b (Nat.lt_of_lt_of_le hb h.size)).trans (h.old b hb hS), Ft.le_trans h.F0 hs.F.le, fun b o hb => ?_, fun b hb => ?_, fun m y hy => ?_, ?_, fun m hm => ?_, fun D hD => ?_⟩
  · rcases hs.F.c b o hb with h1 | h1
    · have := h.Fc b o h1; exact ⟨this.1, Nat.lt_of_lt_of_le this.2 hs.by_.size⟩
    · exact ⟨.inr (.inl (Nat.le_trans h.size h1.1)), h1.2⟩
  · rcases hs.F.m b hb with h1 | h1
    · have := h.Fm b h1; exact ⟨this.1, Nat.lt_of_lt_of_le this.2 hs.by_.size⟩
    · exact ⟨.inr (.inl (Nat.le_trans h.size h1.1)), h1.2⟩
  · by_cases hm : m = nm
    · subst hm
      have := atn y hy
      subst this
      obtain ⟨v, h1, _, h3⟩ := hx
      exact h3
    · have h1 := h.st m y (old m y hm hy)
      exact h1.keep (fun v hv => by rw [hs.η m hm]; exact hv) hext hs.by_.size (fun v b _ _ hlt => hF b hlt) (fun v b p _ _ hok => hok.keep hs.by_.size hs.F)
  · intro i j p q b v u hij hp hq hv hu hbv hbu
    by_cases hi : i = nm
    · subst hi
      have := atn p hp
      subst this
      obtain ⟨v', h1, h2, _⟩ := hx
      rw [hv] at h1
      cases h1
      have h4 := h2 b hbv
      have hj : j ≠ i := fun e => hij e.symm
      rw [hs.η j hj] at hu
      obtain ⟨pp, hok⟩ := (h.st j q (old j q hj hq)).blk hu hbu
      have := hok.2.1
      omega
    · by_cases hj : j = nm
      · subst hj
        have := atn q hq
        subst this
        obtain ⟨v', h1, h2, _⟩ := hx
        rw [hu] at h1
        cases h1
        have h4 := h2 b hbu
        rw [hs.η i hi] at hv
        obtain ⟨pp, hok⟩ := (h.st i p (old i p hi hp)).blk hv hbv
        have := hok.2.1
        omega
      · rw [hs.η i hi] at hv
        rw [hs.η j hj] at hu
        exact h.dist i j p q b v u hij (old i p hi hp) (old j q hj hq) hv hu hbv hbu
  · obtain ⟨h1, h2⟩ := hfr m hm
    by_cases hmn : m = nm
    · subst hmn
      cases x with
      | none => simp only [NewB] at hx; rw [hx]; exact h.fresh m h1
      | some y => exact (h2 rfl rfl).elim
    · rw [hs.η m hmn]; exact h.fresh m h1
  · rw [hs.dp] at hD
    obtain ⟨d1, d2, d3, d4⟩ := h.dp D hD
    have hlt : D < E.w.heap.size := (Array.getElem?_eq_some_iff.1 d1).1
    exact ⟨(hF D hlt).trans d1, d2, fun hm => (hs.F.m D hm).elim d3 (fun h2 => by have := h2.1; omega), fun o ho => (hs.F.c D o ho).elim (d4 o) (fun h2 => by have := h2.1; omega)⟩
end
/-- a slot is set -/
def setT (t : Nat) (v : V) : List (Nat × V) → List (Nat × V)
  | [] => [(t, v)]
  | (u, x) :: l => if t = u then (u, v) :: l else (u, x) :: setT t v l
theorem lkT_setT (t u : Nat) (v : V) : ∀ (l : List (Nat × V)), lkT (setT t v l) u = if u = t then v else lkT l u
  | [] => by simp [setT, lkT]
  | (k, x) :: l => by
    have ih := lkT_setT t u v l
    unfold setT
    by_cases h : t = k
    · rw [if_pos h]; subst h; simp only [lkT]; by_cases h2 : u = t <;> simp [h2]
    · rw [if_neg h]
      simp only [lkT, ih]
      by_cases h2 : u = k
      · have h3 : ¬ u = t := fun e => h (e.symm.trans h2)
        simp [h2, h3, Ne.symm h]
      · simp [h2]
def setB (t : Nat) (v : Blk) : List (Nat × Blk) → List (Nat × Blk)
  | [] => [(t, v)]
  | (u, x) :: l => if t = u then (u, v) :: l else (u, x) :: setB t v l
theorem lkB_setB (t u : Nat) (v : Blk) : ∀ (l : List (Nat × Blk)), lkB (setB t v l) u = if u = t then some v else lkB l u
  | [] => by simp [setB, lkB]
  | (k, x) :: l => by
    have ih := lkB_setB t u v l
    unfold setB
    by_cases h : t = k
    · rw [if_pos h]; subst h; simp only [lkB]; by_cases h2 : u = t <;> simp [h2]
    · rw [if_neg h]
      simp only [lkB, ih]
      by_cases h2 : u = k
      · have h3 : ¬ u = t := fun e => h (e.symm.trans h2)
        simp [h2, h3, Ne.symm h]
      · simp [h2]
def delB (t : Nat) : List (Nat × Blk) → List (Nat × Blk)
  | [] => []
  | (u, x) :: l => if t = u then delB t l else (u, x) :: delB t l
theorem lkB_delB (t u : Nat) : ∀ (l : List (Nat × Blk)), lkB (delB t l) u = if u = t then none else lkB l u
  | [] => by simp [delB, lkB]
  | (k, x) :: l => by
    have ih := lkB_delB t u l
    unfold delB
    by_cases h : t = k
    · rw [if_pos h, ih]; subst h; simp only [lkB]; by_cases h2 : u = t <;> simp [h2]
    · rw [if_neg h]
      simp only [lkB, ih]
      by_cases h2 : u = k
      · have h3 : ¬ u = t := fun e => h (e.symm.trans h2)
        simp [h2, h3, Ne.symm h]
      · simp [h2]
def put (d : Option Tmp) (v : V) (l : List (Nat × V)) : List (Nat × V) := match d with
  | some t => setT t v l
  | none => l
section
variable {P : Program} {B : Base} {E E' : Env} {a : Act}
theorem GamT.ext {tm : Nat → V} (h : GamT B tm E a) (he : Ext E E') (hd : E'.dp = E.dp) : GamT B tm E' a := ⟨fun t => RV.mono he _ _ (h.tm t), by rw [hd]; exact h.defers, h.size⟩
theorem vOf_put {d : Option Tmp} {u : Value} (hs : a.tmps.size = B.N) (hd : ∀ t, d = some t → t < B.N) (k : Nat) : vOf B (a.put d u) k = if d = some k then u else vOf B a k := by
  cases d with
  | none => rw [if_neg (by simp)]; rfl
  | some t =>
    have ht := hd t rfl
    unfold vOf
    by_cases hk : k = t
    · subst hk
      rw [if_pos ht, if_pos rfl]
      simp [Act.put, Array.getD_eq_getD_getElem?, hs, ht]
    · have hk' : ¬ some t = some k := fun e => hk (by injection e with e; exact e.symm)
      rw [if_neg hk']
      by_cases hkN : k < B.N
      · rw [if_pos hkN, if_pos hkN]
        simp [Act.put, Array.getD_eq_getD_getElem?, Array.getElem?_setIfInBounds, Ne.symm hk]
      · rw [if_neg hkN, if_neg hkN]
theorem GamT.put {l : List (Nat × V)} {d : Option Tmp} {v : V} {u : Value} (h : GamT B (lkT l) E a) (hu : RV E v u) (hd : ∀ t, d = some t → t < B.N) : GamT B (lkT (Go.Proofs.Ytfmefdeldgmhpaa.put d v l)) E (a.put d u) := by
  cases d with
  | none => exact h
  | some t =>
    have ht := hd t rfl
    refine ⟨fun k => ?_, h.defers, by simp [Act.put, h.size]⟩
    simp only [Go.Proofs.Ytfmefdeldgmhpaa.put, lkT_setT]
    rw [vOf_put h.size hd]
    by_cases hk : k = t
    · subst hk
      rw [if_pos rfl, if_pos rfl]
      exact hu
    · rw [if_neg hk, if_neg (fun e => hk (by injection e with e; exact e.symm))]
      exact h.tm k
/-- operands -/
def ev (tm : Nat → V) : Operand → V
  | .tmp t => tm t
  | .const v => ofC v
  | .func f => .d (.c (.func (.func f) #[] #[]))
  | .global _ => .any
theorem ofC_ok (E : Env) (v : Value) (h : ∀ cs, v = .agg cs → (cs.toList.all fun u => u.oneCell') = true) : RV E (ofC v) v := by
  cases v <;> simp only [ofC, RV, RD]
  rename_i cs
  refine ⟨cs.toList, by simp, RVL.of_data ?_, fun u hu => List.all_eq_true.1 (h cs rfl) u hu⟩
  generalize cs.toList = l
  induction l with
  | nil => simp [RDL]
  | cons u l ih => simp only [List.map_cons, RDL, RD]; exact ⟨u, l, rfl, rfl, ih⟩
/-- a constant is of one cell, or a struct of such -/
def constOk (N : Nat) : Operand → Bool
  | .tmp t => decide (t < N)
  | .const (.agg cs) => cs.toList.all fun u => u.oneCell'
  | _ => true
theorem ev_ok {tm : Nat → V} (h : GamT B tm E a) (x : Operand) (hc : constOk B.N x = true) : RV E (ev tm x) (a.eval x) := by
  cases x with
  | tmp t =>
    have := h.tm t
    have ht : t < B.N := by simpa [constOk] using hc
    unfold vOf at this
    rw [if_pos ht] at this
    exact this
  | const v => exact ofC_ok E v (fun cs e => by subst e; exact hc)
  | func f => simp only [ev, RV, RD]; rfl
  | global g => simp only [ev, RV]
end
end Go.Proofs.Ytfmefdeldgmhpaa

namespace Go.Proofs.Ytfmefdeldgmhpaa
set_option linter.unusedVariables false
set_option linter.unusedSimpArgs false
open Go.RowKit
/-- cells of one block are set -/
theorem setCells_facts (b : Nat) : ∀ (vs : List Value) (o : Nat) (w : World), (w.setCells b o vs).os = w.os ∧ (w.setCells b o vs).tape = w.tape ∧ (w.setCells b o vs).output = w.output ∧ (w.setCells b o vs).heap.size = w.heap.size ∧ ∀ i, i ≠ b → (w.setCells b o vs).heap[i]? = w.heap[i]?
  | [], o, w => ⟨rfl, rfl, rfl, rfl, fun _ _ => rfl⟩
  | v :: vs, o, w => by
    obtain ⟨h1, h2, h3, h4, h5⟩ := setCells_facts b vs (o + 1) (w.setCell ⟨b, o, none⟩ v)
    refine ⟨h1, h2, h3, by rw [World.setCells, h4]; simp [World.setCell], fun i hi => ?_⟩
    rw [World.setCells, h5 i hi]
    exact Below.heap_setCell _ _ _ _ (by exact hi)
theorem setCells_at (b : Nat) (t : TypeId) : ∀ (vs : List Value) (o : Nat) (w : World) (cur : Array Value), w.heap[b]? = some (.cells cur t (0, 0)) →
    ∃ arr : Array Value, (w.setCells b o vs).heap[b]? = some (.cells arr t (0, 0)) ∧ arr.size = cur.size ∧ ∀ m, arr[m]? = if o ≤ m ∧ m < o + vs.length ∧ m < cur.size then vs[m - o]? else cur[m]?
  | [], o, w, cur, h => ⟨cur, h, rfl, fun m => by rw [if_neg (by simp; omega)]⟩
  | v :: vs, o, w, cur, h => by
    obtain ⟨arr, h1, h2, h3⟩ := setCells_at b t vs (o + 1) (w.setCell ⟨b, o, none⟩ v) (cur.setIfInBounds o v) (heap_setCell_same w b o cur t v h)
    refine ⟨arr, h1, by simpa using h2, fun m => ?_⟩
    rw [h3, Array.size_setIfInBounds, Array.getElem?_setIfInBounds]
    by_cases hm : m = o
    · subst hm
      rw [if_neg (by omega), if_pos rfl]
      by_cases h4 : m < cur.size
      · rw [if_pos h4, if_pos (by simp; omega)]; simp
      · rw [if_neg h4, if_neg (by simp; omega)]; exact (Array.getElem?_eq_none (by omega)).symm
    · by_cases h4 : o + 1 ≤ m ∧ m < o + 1 + vs.length ∧ m < cur.size
      · rw [if_pos h4, if_pos (by simp; omega), show m - o = (m - (o + 1)) + 1 by omega, List.getElem?_cons_succ]
      · rw [if_neg h4, if_neg (fun e => hm e.symm), if_neg (by simp; omega)]
theorem setCells_splice {b : Nat} {t : TypeId} {vs us : List Value} {o : Nat} {w : World} (h : w.heap[b]? = some (.cells us.toArray t (0, 0))) (hl : o + vs.length ≤ us.length) : (w.setCells b o vs).heap[b]? = some (.cells (spliceU us o vs).toArray t (0, 0)) := by
  obtain ⟨arr, h1, h2, h3⟩ := setCells_at b t vs o w us.toArray h
  rw [h1]
  congr 2
  refine Array.ext_getElem? fun m => ?_
  rw [h3]
  simp only [spliceU, List.getElem?_toArray, List.size_toArray]
  by_cases k1 : m < o
  · rw [if_neg (by omega), List.append_assoc, List.getElem?_append_left (by simp; omega), List.getElem?_take, if_pos k1]
  · by_cases k2 : m < o + vs.length
    · rw [if_pos (by omega), List.append_assoc, List.getElem?_append_right (by simp; omega), List.length_take, Nat.min_eq_left (by omega), List.getElem?_append_left (by omega)]
    · rw [if_neg (by omega), List.getElem?_append_right (by simp; omega), List.getElem?_drop, List.length_append, List.length_take, Nat.min_eq_left (by omega)]
      congr 1; omega
theorem spliceU_get {us vs : List Value} {o : Nat} (h : o + vs.length ≤ us.length) (m : Nat) : (spliceU us o vs)[m]? = if m < o then us[m]? else if m < o + vs.length then vs[m - o]? else us[m]? := by
  unfold spliceU
  by_cases k1 : m < o
  · rw [if_pos k1, List.append_assoc, List.getElem?_append_left (by simp; omega), List.getElem?_take, if_pos k1]
  · rw [if_neg k1]
    by_cases k2 : m < o + vs.length
    · rw [if_pos k2, List.append_assoc, List.getElem?_append_right (by simp; omega), List.length_take, Nat.min_eq_left (by omega), List.getElem?_append_left (by omega)]
    · rw [if_neg k2, List.getElem?_append_right (by simp; omega), List.getElem?_drop, List.length_append, List.length_take, Nat.min_eq_left (by omega)]
      congr 1; omega
theorem spliceU_take {us vs : List Value} {o n : Nat} (h : o + vs.length ≤ n) (hn : n ≤ us.length) : (spliceU us o vs).take n = spliceU (us.take n) o vs := by
  refine List.ext_getElem? fun m => ?_
  rw [List.getElem?_take, spliceU_get (by omega), spliceU_get (by simp; omega), List.getElem?_take]
  by_cases hm : m < n
  · simp only [if_pos hm]
  · rw [if_neg hm, if_neg (by omega), if_neg (by omega), if_neg hm]
theorem spliceU_left {us vs : List Value} {o n : Nat} (h : o + vs.length ≤ n) (hn : n ≤ us.length) : spliceU us o vs = spliceU (us.take n) o vs ++ us.drop n := by
  have h1 := spliceU_take h hn
  rw [← h1]
  have h2 : us.drop n = (spliceU us o vs).drop n := by
    refine List.ext_getElem? fun m => ?_
    rw [List.getElem?_drop, List.getElem?_drop, spliceU_get (by omega), if_neg (by omega), if_neg (by omega)]
  rw [h2, List.take_append_drop]
theorem spliceU_right {us vs : List Value} {o n : Nat} (h : n + o + vs.length ≤ us.length) : spliceU us (n + o) vs = us.take n ++ spliceU (us.drop n) o vs := by
  refine List.ext_getElem? fun m => ?_
  rw [spliceU_get h]
  by_cases hm : m < n
  · rw [if_pos (by omega), List.getElem?_append_left (by simp; omega), List.getElem?_take, if_pos hm]
  · rw [List.getElem?_append_right (by simp; omega), List.length_take, Nat.min_eq_left (by omega), spliceU_get (by simp; omega), List.getElem?_drop]
    by_cases k1 : m < n + o
    · rw [if_pos k1, if_pos (by omega)]; congr 1; omega
    · by_cases k2 : m < n + o + vs.length
      · rw [if_neg k1, if_pos k2, if_neg (show ¬ m - n < o by omega), if_pos (show m - n < o + vs.length by omega)]; congr 1; omega
      · rw [if_neg k1, if_neg k2, if_neg (show ¬ m - n < o by omega), if_neg (show ¬ m - n < o + vs.length by omega)]; congr 1; omega
theorem storeVar_agg {P : Program} (t : TypeId) (a : Addr) (v : Value) : (storeVar t a v) = (storeVar t a (.agg v.cells)) := rfl
section
variable {P : Program} {B : Base} {E E' : Env} {σ σ' : Nat → Option Blk} {fr : Nat → Prop} {n b : Nat}
/-- one block of the call's own is written -/
theorem GamS.write {x x' : Blk} {w' : World} (h : GamS P B σ fr E) (hn : σ n = some x) (hσ : ∀ m, σ' m = if m = n then some x' else σ m) {v : Value} (hv : E.η n = some v) (hbv : hb v = some b) (hp : ∀ o, ¬ E.F.c b o)
    (h1 : w'.os = E.w.os) (h2 : w'.tape = E.w.tape) (h3 : w'.output = E.w.output) (h4 : w'.heap.size = E.w.heap.size) (h5 : ∀ i, i ≠ b → w'.heap[i]? = E.w.heap[i]?) (hx : ∀ E', E' = Env.mk E.η E.F w' E.dp → Ext E E' → okB B E' b (fun _ => False) → RBk P B E' n x') :
    GamS P B σ' fr ⟨E.η, E.F, w', E.dp⟩ ∧ Ext E ⟨E.η, E.F, w', E.dp⟩ := by
  obtain ⟨p, hok⟩ := (h.st n x hn).blk hv hbv
  have hext : Ext E ⟨E.η, E.F, w', E.dp⟩ := ⟨fun _ _ h => h, Ft.le_refl _, .of_blocks (fun i o hi => h5 i (fun e => by subst e; exact hp o hi)) (fun i hi => h5 i (fun e => by subst e; exact hok.2.2.1 hi))⟩
  refine ⟨⟨h1.trans h.os, h2.trans h.tape, h3.trans h.output, by show _ ≤ w'.heap.size; rw [h4]; exact h.size, fun i hi hS => ?_, h.F0, fun i o hi => ?_, fun i hi => ?_, fun m y hy => ?_, ?_, h.fresh, fun D hD => ?_⟩, hext⟩
  · show w'.heap[i]? = _
    rw [h5 i (fun e => by subst e; rcases hok.1 with h6 | h6; omega; exact hS h6)]
    exact h.old i hi hS
  · show _ ∧ i < w'.heap.size
    rw [h4]; exact h.Fc i o hi
  · show _ ∧ i < w'.heap.size
    rw [h4]; exact h.Fm i hi
  · rw [hσ] at hy
    by_cases hm : m = n
    · subst hm
      rw [if_pos rfl] at hy
      cases hy
      exact hx _ rfl hext ⟨hok.1, by show b < w'.heap.size; rw [h4]; exact hok.2.1, hok.2.2.1, fun o ho => hp o ho⟩
    · rw [if_neg hm] at hy
      refine (h.st m y hy).keep (fun _ h => h) hext (Nat.le_of_eq h4.symm) (fun v' b' hv' hb' _ => h5 b' (fun e => by subst e; exact h.dist n m x y b' v v' (Ne.symm hm) hn hy hv hv' hbv hb')) (fun v' b' p' _ _ hok' => ⟨hok'.1, by show b' < w'.heap.size; rw [h4]; exact hok'.2.1, hok'.2.2.1, hok'.2.2.2⟩)
  · intro i j p' q b' v' u hij hpi hqj hvi huj hbi hbj
    have old : ∀ m y, σ' m = some y → ∃ y', σ m = some y' := fun m y hy => by
      rw [hσ] at hy
      by_cases hm : m = n
      · exact ⟨x, by rw [hm]; exact hn⟩
      · rw [if_neg hm] at hy; exact ⟨y, hy⟩
    obtain ⟨p2, hp2⟩ := old i p' hpi
    obtain ⟨q2, hq2⟩ := old j q hqj
    exact h.dist i j p2 q2 b' v' u hij hp2 hq2 hvi huj hbi hbj
  · obtain ⟨d1, d2⟩ := h.dp D hD
    exact ⟨(h5 D (fun e => by subst e; exact (h.st n x hn).nodp hv hbv d1)).trans d1, d2⟩
end
/-- the value val is stored at an address -/
def stK (st : List (Nat × Blk)) (sz : Nat) (val : V) (K : List (Nat × Blk) → Prop) : V → Prop
  | .ptr n off => match lkB st n, vcells val with
    | some (.cells t cs), some vs => vs.length = sz ∧ off + sz ≤ cs.length ∧ K (setB n (.cells t (splice cs off vs)) st)
    | _, _ => False
  | .oel n sz1 j off => match lkB st n, vcells val with
    | some (.row e sz2 d0 es), some ds => ds.length = sz ∧ off + sz ≤ sz1 ∧ sz1 = sz2 ∧ j < es.length ∧ K (setB n (.row e sz1 d0 (es.set j (splice (es.getD j d0) off ds))) st)
    | _, _ => False
  | _ => False
theorem splice_len {cells cs : List V} {off : Nat} (h : off + cs.length ≤ cells.length) : (splice cells off cs).length = cells.length := by
  simp [splice]; omega
theorem st_run {P : Program} {t : Nat} {i : TyI} (hi : TyOk P t i) {w : World} {b o : Nat} {v : Value} {us : List Value} (hv : v.cells = us.toArray) (h1 : ∀ u ∈ us, u.oneCell' = true) (hl : us.length = i.sz) (ht : w.there b o us.length) :
    (Instr.storeAt t (.pointer (some ⟨b, o, none⟩)) v).run P w = .ok () (w.setCells b o us) := by
  have := run_storeAt_mid (P := P) w b o t us.toArray (by simpa using ht) (by rw [hi.size]; simp [hl]) (by simpa using h1)
  rw [show (Instr.storeAt t (.pointer (some ⟨b, o, none⟩)) v) = (Instr.storeAt t (.pointer (some ⟨b, o, none⟩)) (.agg us.toArray)) by
    show (do storeVar t (← Instr.sureAddr _) v) = (do storeVar t (← Instr.sureAddr _) (.agg us.toArray))
    simp only [storeVar_agg (P := P) t _ v, hv]]
  simpa using this
section
variable {P : Program} {B : Base} {s : St} {E : Env} {a : Act} {o : Oper}
theorem there_of {w : World} {b : Nat} {us : List Value} {t : TypeId} (h : w.heap[b]? = some (.cells us.toArray t (0, 0))) {o n : Nat} (hl : o + n ≤ us.length) : w.there b o n := fun j hj => by
  constructor
  · simp only [World.cell?, h]
    simp; omega
  · simp [World.frozen?, h]
/-- a store -/
theorem st_ok {t : Nat} {i : TyI} (hi : TyOk P t i) {x y : Operand} (ho : o.op = .store t x y) (hx : constOk B.N x = true) (hy : constOk B.N y = true) {K : List (Nat × Blk) → Prop} (h : stK s.st i.sz (ev (lkT s.tm) y) K (ev (lkT s.tm) x)) :
    ∃ st', K st' ∧ ∀ E a, Gam P B s E a → ∃ E', (execOp a.eval o).run P E.w = .ok .skip E'.w ∧ GamS P B (lkB st') (fun n => s.nx ≤ n) E' ∧ Ext E E' ∧ E'.dp = E.dp := by
  generalize hX : ev (lkT s.tm) x = X at h
  generalize hY : ev (lkT s.tm) y = Y at h
  unfold stK at h
  split at h <;> try exact h.elim
  · rename_i n off
    split at h <;> try exact h.elim
    rename_i t' cs vs hst hvc
    obtain ⟨hsz, hoff, hK⟩ := h
    refine ⟨_, hK, fun E a hg => ?_⟩
    have rx := ev_ok hg.2 x hx
    have ry := ev_ok hg.2 y hy
    rw [hX] at rx
    rw [hY] at ry
    simp only [RV] at rx
    obtain ⟨b, hb1, hb2⟩ := rx
    obtain ⟨us, g1, g2, g3⟩ := vcells_ok hvc ry
    obtain ⟨b', cur, k1, k2, k3, k4, k5⟩ := hg.1.st n _ hst
    rw [hb1] at k1
    cases k1
    have hl1 := g2.len
    have hl2 := k3.len
    obtain ⟨f1, f2, f3, f4, f5⟩ := setCells_facts b us off E.w
    have hrun := st_run (P := P) (w := E.w) (b := b) (o := off) hi g1 g3 (by omega) (there_of k2 (by omega))
    have hW := GamS.write (x := .cells t' cs) (x' := .cells t' (splice cs off vs)) (σ' := lkB (setB n (.cells t' (splice cs off vs)) s.st)) (w' := E.w.setCells b off us) hg.1 hst (fun m => lkB_setB _ _ _ _) hb1 rfl (fun o' ho' => (k5.2.2.2 o' ho').elim) f1 f2 f3 f4 f5 (fun E' hE' hext hok => by
      subst hE'
      refine ⟨b, spliceU cur off us, hb1, setCells_splice k2 (by omega), RVL.splice (RVL.mono hext _ _ k3) (RVL.mono hext _ _ g2), fun u hu => ?_, hok⟩
      unfold spliceU at hu
      rcases List.mem_append.1 hu with hu | hu
      · rcases List.mem_append.1 hu with hu | hu
        · exact k4 u (List.mem_of_mem_take hu)
        · exact g3 u hu
      · exact k4 u (List.mem_of_mem_drop hu))
    exact ⟨_, by simp [execOp, ho, hb2, hrun], hW.1, hW.2, rfl⟩
  · rename_i n sz1 j off
    split at h <;> try exact h.elim
    rename_i e sz2 d0 es ds hst hvc
    obtain ⟨hsz, hoff, rfl, hj, hK⟩ := h
    refine ⟨_, hK, fun E a hg => ?_⟩
    have rx := ev_ok hg.2 x hx
    have ry := ev_ok hg.2 y hy
    rw [hX] at rx
    rw [hY] at ry
    simp only [RV] at rx
    obtain ⟨b, l, c, hb1, hb2⟩ := rx
    obtain ⟨us, g1, g2, g3⟩ := vcells_ok hvc ry
    have g4 := g2
    have hl4 := g4.len
    obtain ⟨v0, cur0, k1, k2, k3, k4, k5, k6, k7⟩ := hg.1.st n _ hst
    rw [hb1] at k1
    cases k1
    rcases k2.2 with ⟨hnil, _⟩ | ⟨g, cap, cur, hv, _, hgb, hle, hcm, hcs, htake⟩
    · cases hnil
    · cases hv
      have hbound : j * sz1 + sz1 ≤ es.length * sz1 := by
        calc j * sz1 + sz1 = (j + 1) * sz1 := by rw [Nat.add_mul, Nat.one_mul]
          _ ≤ es.length * sz1 := Nat.mul_le_mul_right _ hj
      have hbound2 : es.length * sz1 ≤ cur.size := by rw [hcs]; exact Nat.mul_le_mul_right _ hle
      have hgb' : E.w.heap[b]? = some (.cells cur.toList.toArray e (0, 0)) := by simpa using hgb
      obtain ⟨f1, f2, f3, f4, f5⟩ := setCells_facts b us (j * sz1 + off) E.w
      have hrun := st_run (P := P) (w := E.w) (b := b) (o := j * sz1 + off) hi g1 g3 (by omega) (there_of hgb' (by simp; omega))
      have hlen0 : cur0.length = es.length * sz1 := k2.1
      have hW := GamS.write (x := .row e sz1 d0 es) (x' := .row e sz1 d0 (es.set j (splice (es.getD j d0) off ds))) (σ' := lkB (setB n (.row e sz1 d0 (es.set j (splice (es.getD j d0) off ds))) s.st)) (w' := E.w.setCells b (j * sz1 + off) us) hg.1 hst (fun m => lkB_setB _ _ _ _) hb1 rfl (fun o' ho' => ((k7 b rfl).2.2.2 o' ho').elim) f1 f2 f3 f4 f5 (fun E' hE' hext hok => by
        subst hE'
        have hge : es.getD j d0 ∈ es := by
          have : es[j]? = some (es.getD j d0) := by simp [List.getD, hj]
          exact List.mem_of_getElem? this
        have hel := k4 _ hge
        have hsplen : (splice (es.getD j d0) off ds).length = sz1 := by unfold splice; simp only [List.length_append, List.length_take, List.length_drop]; omega
        refine ⟨_, spliceU cur0 (j * sz1 + off) us, hb1, ⟨?_, .inr ⟨b, c, (spliceU cur.toList (j * sz1 + off) us).toArray, by simp, Nat.zero_le _, setCells_splice hgb' (by simp; omega), by simpa using hle, hcm, ?_, ?_⟩⟩, ?_, ?_, ?_, by simpa using k6, fun b' hb' => by cases hb'; exact hok⟩
        · unfold spliceU; simp; omega
        · unfold spliceU; simp; omega
        · simp only [List.length_set]
          rw [spliceU_take (by omega) (by simpa using hbound2), htake]
        · -- the elements' cells
          have key : ∀ (es : List (List V)) (us0 : List Value) (j : Nat) (hj : j < es.length), (∀ y ∈ es, y.length = sz1) → ∀ {E : Env}, RVL E es.flatten us0 → RVL E ds us → RVL E (es.set j (splice (es.getD j d0) off ds)).flatten (spliceU us0 (j * sz1 + off) us) := by
            intro es
            induction es with
            | nil => intro us0 j hj; simp at hj
            | cons y es ih =>
              intro us0 j hj hz E h1 h2
              have hy := hz y (by simp)
              simp only [List.flatten_cons] at h1
              have t1 := h1.take y.length
              have t2 := h1.drop y.length
              simp only [List.take_left', List.drop_left'] at t1 t2
              have hl0 := h1.len
              have hl1 := t1.len
              cases j with
              | zero =>
                simp only [List.set_cons_zero, List.flatten_cons, List.getD_cons_zero, Nat.zero_mul, Nat.zero_add]
                have hh := ((t1.take off).append h2).append (t1.drop (off + ds.length)) |>.append t2
                have hud : us.length = ds.length := h2.len
                have e1 : spliceU us0 off us = ((us0.take y.length).take off ++ us ++ (us0.take y.length).drop (off + ds.length)) ++ us0.drop y.length := by
                  rw [spliceU_left (n := y.length) (by omega) (by simp at hl1; omega), ← hud]
                  rfl
                rw [e1]
                exact hh
              | succ j =>
                simp only [List.set_cons_succ, List.flatten_cons, List.getD_cons_succ]
                have hj' : j < es.length := by simpa using hj
                have ih' := ih (us0.drop y.length) j hj' (fun z hz' => hz z (by simp [hz'])) t2 h2
                have hud : us.length = ds.length := h2.len
                have hlb : j * sz1 + sz1 ≤ es.flatten.length := by
                  have : es.flatten.length = es.length * sz1 := by
                    clear ih ih' h1 t1 t2 hl0 hl1 hj hj'
                    induction es with
                    | nil => simp
                    | cons z es ih2 =>
                      rw [List.flatten_cons, List.length_append, ih2 (fun q hq => hz q (by
                        rcases List.mem_cons.1 hq with rfl | hq
                        · simp
                        · simp [hq])), hz z (by simp), List.length_cons, Nat.add_mul, Nat.one_mul, Nat.add_comm]
                  rw [this]
                  calc j * sz1 + sz1 = (j + 1) * sz1 := by rw [Nat.add_mul, Nat.one_mul]
                    _ ≤ es.length * sz1 := Nat.mul_le_mul_right _ hj'
                have e1 : spliceU us0 ((j + 1) * sz1 + off) us = us0.take y.length ++ spliceU (us0.drop y.length) (j * sz1 + off) us := by
                  rw [show (j + 1) * sz1 + off = y.length + (j * sz1 + off) by rw [Nat.add_mul]; omega]
                  rw [List.length_append] at hl0
                  exact spliceU_right (by omega)
                rw [e1]
                exact t1.append ih'
          exact key es cur0 j hj k4 (RVL.mono hext _ _ k3) (RVL.mono hext _ _ g4)
        · intro z hz
          rcases List.mem_or_eq_of_mem_set hz with hz | rfl
          · exact k4 z hz
          · exact hsplen
        · intro u hu
          unfold spliceU at hu
          rcases List.mem_append.1 hu with hu | hu
          · rcases List.mem_append.1 hu with hu | hu
            · exact k5 u (List.mem_of_mem_take hu)
            · exact g3 u hu
          · exact k5 u (List.mem_of_mem_drop hu))
      exact ⟨_, by simp [execOp, ho, hb2, hrun], hW.1, hW.2, rfl⟩
end
/-- m[x] = v, delete(m, x): mk says what becomes of the entries -/
def mpK (P : Program) (T : Tab) (st : List (Nat × Blk)) (t : Nat) (x : V) (f : List Int → List (List Int × V) → List (List Int × V)) (K : List (Nat × Blk) → Prop) : V → Prop
  | .mp n => match ty T t with
    | some ⟨.map k el, _, _, _⟩ => match lkB st n with
      | some (.map q k' zv z0 es) => match keyV q x with
        | some c => k' = k ∧ KeyOk P k q ∧ fitK q c ∧ K (setB n (.map q k zv z0 (f c es)) st)
        | none => False
      | _ => False
    | _ => False
  | _ => False
theorem upM_set {c : List Int} {v x : V} : ∀ {es : List (List Int × V)} {j : Nat}, (es.map (·.1)).Nodup → es[j]? = some (c, x) → upM c v es = es.set j (c, v) ∧ dlM c es = es.eraseIdx j
  | [], j, _, h => by simp at h
  | (d, y) :: l, 0, _, h => by
    simp at h
    simp [upM, dlM, h.1]
  | (d, y) :: l, j + 1, hn, h => by
    simp only [List.map_cons, List.nodup_cons] at hn
    have h' : l[j]? = some (c, x) := by simpa using h
    have hcd : c ≠ d := fun e => hn.1 (by rw [← e]; exact List.mem_map.2 ⟨(c, x), List.mem_of_getElem? h', rfl⟩)
    obtain ⟨i1, i2⟩ := upM_set (v := v) hn.2 h'
    simp only [upM, dlM, if_neg hcd, List.set_cons_succ, List.eraseIdx_cons_succ, i1, i2]
    exact ⟨trivial, trivial⟩
theorem upM_any {c : List Int} {v : V} : ∀ {es : List (List Int × V)}, lkM c es = none → upM c v es = es ++ [(c, v)] ∧ dlM c es = es ∧ c ∉ es.map (·.1)
  | [], _ => ⟨rfl, rfl, by simp⟩
  | (d, y) :: l, h => by
    unfold lkM at h
    split at h
    · cases h
    · rename_i hcd
      obtain ⟨i1, i2, i3⟩ := upM_any (v := v) h
      simp only [upM, dlM, if_neg hcd, i1, i2]
      exact ⟨rfl, trivial, by simp only [List.map_cons, List.mem_cons, not_or]; exact ⟨hcd, i3⟩⟩
section
variable {P : Program} {q : KQ} {k : TypeId} {E : Env}
theorem RMp.push {e : MapEntry} {c : List Int} {v : V} (he : keyC q e.key = some c ∧ fitK q c ∧ RV E v e.val) : ∀ {ms : List MapEntry} {es : List (List Int × V)}, RMp P q k E ms es → RMp P q k E (ms ++ [e]) (es ++ [(c, v)])
  | [], [], _ => ⟨he, trivial⟩
  | _ :: _, (_, _) :: _, h => ⟨h.1, RMp.push he h.2⟩
  | [], _ :: _, h => by simp only [RMp] at h
  | _ :: _, [], h => by simp only [RMp] at h
theorem RMp.set {e : MapEntry} {c : List Int} {v : V} (he : keyC q e.key = some c ∧ fitK q c ∧ RV E v e.val) : ∀ {ms : List MapEntry} {es : List (List Int × V)} {j : Nat}, RMp P q k E ms es → RMp P q k E (ms.set j e) (es.set j (c, v))
  | [], [], _, _ => trivial
  | _ :: _, (_, _) :: _, 0, h => ⟨he, h.2⟩
  | _ :: _, (_, _) :: _, j + 1, h => ⟨h.1, RMp.set he h.2⟩
  | [], _ :: _, _, h => by simp only [RMp] at h
  | _ :: _, [], _, h => by simp only [RMp] at h
theorem RMp.erase : ∀ {ms : List MapEntry} {es : List (List Int × V)} {j : Nat}, RMp P q k E ms es → RMp P q k E (ms.eraseIdx j) (es.eraseIdx j)
  | [], [], _, _ => trivial
  | _ :: _, (_, _) :: _, 0, h => h.2
  | _ :: _, (_, _) :: _, j + 1, h => ⟨h.1, RMp.erase h.2⟩
  | [], _ :: _, _, h => by simp only [RMp] at h
  | _ :: _, [], _, h => by simp only [RMp] at h
end
theorem nodup_set {c : List Int} {v x : V} {es : List (List Int × V)} {j : Nat} (hn : (es.map (·.1)).Nodup) (h : es[j]? = some (c, x)) : ((es.set j (c, v)).map (·.1)).Nodup := by
  have : (es.set j (c, v)).map (·.1) = es.map (·.1) := by
    rw [List.map_set]
    refine List.ext_getElem? fun m => ?_
    rw [List.getElem?_set]
    split
    · rename_i e
      subst e
      simp only [List.length_map, List.getElem?_map, h, Option.map_some]
      have := (List.getElem?_eq_some_iff.1 h).1
      simp [this]
    · rfl
  rw [this]
  exact hn
section
variable {P : Program} {T : Tab} {B : Base} {s : St} {E : Env} {a : Act} {o : Oper}
theorem setBlk_facts {w : World} {b : Nat} {x : Obj} : (∀ i, i ≠ b → (w.heap.setIfInBounds b x)[i]? = w.heap[i]?) ∧ (b < w.heap.size → (w.heap.setIfInBounds b x)[b]? = some x) :=
  ⟨fun i hi => by rw [Array.getElem?_setIfInBounds]; simp [Ne.symm hi], fun hb => by simp [hb]⟩
/-- m[x] = v -/
theorem mu_ok (hT : TabOk P T) {t : Nat} {m x y : Operand} (ho : o.op = .mapUpdate t m x y ∨ o.op = .insert t m x y) (hm : constOk B.N m = true) (hx : constOk B.N x = true) (hy : constOk B.N y = true) {K : List (Nat × Blk) → Prop}
    (h : mpK P T s.st t (ev (lkT s.tm) x) (fun c es => upM c (ev (lkT s.tm) y) es) K (ev (lkT s.tm) m)) :
    ∃ st', K st' ∧ ∀ E a, Gam P B s E a → ∃ E', (execOp a.eval o).run P E.w = .ok .skip E'.w ∧ GamS P B (lkB st') (fun n => s.nx ≤ n) E' ∧ Ext E E' ∧ E'.dp = E.dp := by
  generalize hM : ev (lkT s.tm) m = M at h
  generalize hX : ev (lkT s.tm) x = X at h
  unfold mpK at h
  split at h <;> try exact h.elim
  rename_i n
  split at h <;> try exact h.elim
  rename_i k el sz0 z0' p0 hty
  have ht : P.underlying t = some (.map k el) := (ty_ok hT hty).2
  split at h <;> try exact h.elim
  rename_i q k' zv z0 es hst
  split at h <;> try exact h.elim
  rename_i c hc
  obtain ⟨rfl, hKo, hfit, hK⟩ := h
  refine ⟨_, hK, fun E a hg => ?_⟩
  have rm := ev_ok hg.2 m hm
  have rx := ev_ok hg.2 x hx
  have ry := ev_ok hg.2 y hy
  rw [hM] at rm
  rw [hX] at rx
  simp only [RV] at rm
  obtain ⟨b, ms, clock, g1, g2, g3, g4, g5, g6⟩ := hg.1.st n _ hst
  have gm : a.eval m = .map (some b) := Option.some.inj (rm.1.symm.trans g1)
  have hkc := keyV_ok hc rx
  have hks := hKo.fit _ _ hkc hfit
  obtain ⟨l, hl⟩ := Option.isSome_iff_exists.1 hks
  have fin : ∀ (ms' : Array MapEntry) (clock' : Nat) (es' : List (List Int × V)), (execOp a.eval o).run P E.w = .ok .skip { E.w with heap := E.w.heap.setIfInBounds b (.map ms' clock') } → (∀ E', Ext E E' → RMp P q k' E' ms'.toList es') → (es'.map (·.1)).Nodup → es' = upM c (ev (lkT s.tm) y) es →
      ∃ E', (execOp a.eval o).run P E.w = .ok .skip E'.w ∧ GamS P B (lkB (setB n (.map q k' zv z0 (upM c (ev (lkT s.tm) y) es)) s.st)) (fun n => s.nx ≤ n) E' ∧ Ext E E' ∧ E'.dp = E.dp := by
    intro ms' clock' es' hrun hr hnd he
    have hW := GamS.write (x := .map q k' zv z0 es) (x' := .map q k' zv z0 (upM c (ev (lkT s.tm) y) es)) (σ' := lkB (setB n (.map q k' zv z0 (upM c (ev (lkT s.tm) y) es)) s.st)) (w' := { E.w with heap := E.w.heap.setIfInBounds b (.map ms' clock') }) hg.1 hst (fun m => lkB_setB _ _ _ _) g1 rfl (fun o' ho' => (g6.2.2.2 o' ho').elim) rfl rfl rfl (by simp) setBlk_facts.1 (fun E' hE' hext hok => by
      subst hE'
      exact ⟨b, ms', clock', g1, setBlk_facts.2 g6.2.1, by rw [← he]; exact hr _ hext, by rw [← he]; exact hnd, RV.mono hext _ _ g5, hok⟩)
    exact ⟨_, hrun, hW.1, hW.2, rfl⟩
  have hop : (execOp a.eval o).run P E.w = ((Instr.mapUpdate t (.map (some b)) (a.eval x) (a.eval y)).run P E.w).andThen fun _ w => .ok .skip w := by
    rcases ho with ho | ho <;> simp [execOp, ho, gm]
  rcases rm_find hKo hkc hks E.w g3 g4 with ⟨h3, h4, _⟩ | ⟨j, e0, y0, h3, h4, h5, h6, h7, h8⟩
  · obtain ⟨u1, u2, u3⟩ := upM_any (v := ev (lkT s.tm) y) h4
    refine fin (ms.push ⟨a.eval x, a.eval y, clock⟩) (clock + 1) (es ++ [(c, ev (lkT s.tm) y)]) ?_ (fun E' hext => ?_) ?_ u1.symm
    · rw [hop]
      simp [Instr.mapUpdate, run_underlying ht, MapKept.run_getObj_map g2, hKo.keyed.check E.w _ hl, h3, MapKept.run_setObj_map _ g2, Result.andThen]
    · rw [Array.toList_push]
      exact RMp.push ⟨hkc, hfit, RV.mono hext _ _ ry⟩ (g3.mono hext)
    · rw [List.map_append, List.map_cons, List.map_nil]
      exact List.nodup_append.2 ⟨g4, by simp, fun z hz z' hz' => by simp at hz'; subst hz'; exact fun e => u3 (by rw [← e]; exact hz)⟩
  · obtain ⟨u1, u2⟩ := upM_set (v := ev (lkT s.tm) y) g4 h6
    have hj : ms[j]? = some e0 := by simpa using h4
    refine fin (ms.modify j fun e => { e with key := a.eval x, val := a.eval y }) clock (es.set j (c, ev (lkT s.tm) y)) ?_ (fun E' hext => ?_) (nodup_set g4 h6) u1.symm
    · rw [hop]
      simp [Instr.mapUpdate, run_underlying ht, MapKept.run_getObj_map g2, hKo.keyed.check E.w _ hl, h3, hj, h5, hKo.keyed.stays E.w hl, MapKept.run_setObj_map _ g2, Result.andThen]
    · have hl2 : (ms.modify j fun e => { e with key := a.eval x, val := a.eval y }).toList = ms.toList.set j { e0 with key := a.eval x, val := a.eval y } := by
        refine List.ext_getElem? fun i => ?_
        rw [Array.getElem?_toList, Array.getElem?_modify, List.getElem?_set]
        by_cases hij : j = i
        · subst hij
          rw [if_pos rfl, if_pos rfl, hj]
          have := (Array.getElem?_eq_some_iff.1 hj).1
          simp [this]
        · rw [if_neg hij, if_neg hij]; simp
      rw [hl2]
      exact RMp.set ⟨hkc, hfit, RV.mono hext _ _ ry⟩ (g3.mono hext)
/-- delete(m, x) -/
theorem de_ok (hT : TabOk P T) {t : Nat} {m x : Operand} {c0 : Call} (ho : o.op = .call c0) (hc0 : c0.callee = .builtin .delete) {rest : List TypeId} (hts : c0.argTypes = (t :: rest).toArray) (has : c0.args = #[m, x]) (hm : constOk B.N m = true) (hx : constOk B.N x = true) {K : List (Nat × Blk) → Prop}
    (h : mpK P T s.st t (ev (lkT s.tm) x) dlM K (ev (lkT s.tm) m)) :
    ∃ st', K st' ∧ ∀ E a, Gam P B s E a → ∃ E', (execOp a.eval o).run P E.w = .ok (.value (.tuple #[])) E'.w ∧ GamS P B (lkB st') (fun n => s.nx ≤ n) E' ∧ Ext E E' ∧ E'.dp = E.dp := by
  generalize hM : ev (lkT s.tm) m = M at h
  generalize hX : ev (lkT s.tm) x = X at h
  unfold mpK at h
  split at h <;> try exact h.elim
  rename_i n
  split at h <;> try exact h.elim
  rename_i k el sz0 z0' p0 hty
  have ht : P.underlying t = some (.map k el) := (ty_ok hT hty).2
  split at h <;> try exact h.elim
  rename_i q k' zv z0 es hst
  split at h <;> try exact h.elim
  rename_i c hc
  obtain ⟨rfl, hKo, hfit, hK⟩ := h
  refine ⟨_, hK, fun E a hg => ?_⟩
  have rm := ev_ok hg.2 m hm
  have rx := ev_ok hg.2 x hx
  rw [hM] at rm
  rw [hX] at rx
  simp only [RV] at rm
  obtain ⟨b, ms, clock, g1, g2, g3, g4, g5, g6⟩ := hg.1.st n _ hst
  have gm : a.eval m = .map (some b) := Option.some.inj (rm.1.symm.trans g1)
  have hkc := keyV_ok hc rx
  have hks := hKo.fit _ _ hkc hfit
  obtain ⟨l, hl⟩ := Option.isSome_iff_exists.1 hks
  have fin : ∀ (ms' : Array MapEntry) (clock' : Nat) (es' : List (List Int × V)), (execOp a.eval o).run P E.w = .ok (.value (.tuple #[])) { E.w with heap := E.w.heap.setIfInBounds b (.map ms' clock') } → (∀ E', Ext E E' → RMp P q k' E' ms'.toList es') → (es'.map (·.1)).Nodup → es' = dlM c es →
      ∃ E', (execOp a.eval o).run P E.w = .ok (.value (.tuple #[])) E'.w ∧ GamS P B (lkB (setB n (.map q k' zv z0 (dlM c es)) s.st)) (fun n => s.nx ≤ n) E' ∧ Ext E E' ∧ E'.dp = E.dp := by
    intro ms' clock' es' hrun hr hnd he
    have hW := GamS.write (x := .map q k' zv z0 es) (x' := .map q k' zv z0 (dlM c es)) (σ' := lkB (setB n (.map q k' zv z0 (dlM c es)) s.st)) (w' := { E.w with heap := E.w.heap.setIfInBounds b (.map ms' clock') }) hg.1 hst (fun m => lkB_setB _ _ _ _) g1 rfl (fun o' ho' => (g6.2.2.2 o' ho').elim) rfl rfl rfl (by simp) setBlk_facts.1 (fun E' hE' hext hok => by
      subst hE'
      exact ⟨b, ms', clock', g1, setBlk_facts.2 g6.2.1, by rw [← he]; exact hr _ hext, by rw [← he]; exact hnd, RV.mono hext _ _ g5, hok⟩)
    exact ⟨_, hrun, hW.1, hW.2, rfl⟩
  have hop : (execOp a.eval o).run P E.w = ((Builtin.delete_ (t :: rest).toArray o.type #[.map (some b), a.eval x]).run P E.w).andThen fun v w => .ok (.value v) w := by
    simp [execOp, ho, resolve, hc0, hts, has, invoke, builtin, gm, Result.andThen]
  rcases rm_find hKo hkc hks E.w g3 g4 with ⟨h3, h4, _⟩ | ⟨j, e0, y0, h3, h4, h5, h6, h7, h8⟩
  · obtain ⟨u1, u2, u3⟩ := upM_any (v := .any) h4
    refine fin ms clock es ?_ (fun E' hext => g3.mono hext) g4 u2.symm
    rw [hop]
    simp [Builtin.delete_, run_underlying ht, MapKept.run_getObj_map g2, hKo.keyed.check E.w _ hl, h3, MapKept.run_setObj_map _ g2, Result.andThen]
  · obtain ⟨u1, u2⟩ := upM_set (v := .any) g4 h6
    refine fin (ms.eraseIdxIfInBounds j) clock (es.eraseIdx j) ?_ (fun E' hext => ?_) ?_ u2.symm
    · rw [hop]
      simp [Builtin.delete_, run_underlying ht, MapKept.run_getObj_map g2, hKo.keyed.check E.w _ hl, h3, MapKept.run_setObj_map _ g2, Result.andThen]
    · have hl2 : (ms.eraseIdxIfInBounds j).toList = ms.toList.eraseIdx j := by
        have hj := (List.getElem?_eq_some_iff.1 h4).1
        simp only [Array.length_toList] at hj
        simp [Array.eraseIdxIfInBounds, hj]
      rw [hl2]
      exact RMp.erase (g3.mono hext)
    · exact g4.sublist ((List.eraseIdx_sublist _ _).map _)
end
end Go.Proofs.Ytfmefdeldgmhpaa

namespace Go.Proofs.Ytfmefdeldgmhpaa
set_option linter.unusedVariables false
set_option linter.unusedSimpArgs false
open Go.RowKit
section
variable {P : Program}
/-- an append of cells; the old row's block is as it was, if the new row is not in it -/
theorem run_append_own3 (w : World) (base : Nat) (t ty e : TypeId) (i : TypeInfo) (z : Value) (size bytes : Nat) (ht : P.underlying t = some (.slice e)) (hi : P.info? e = some i) (hz : i.zero = some z)
    (hsize : i.size = size) (hby : i.bytes = bytes) (hzs : z.cells.size = size) (hsz : 0 < size)
    (v : Value) (n : Nat) (xs : List Value) (hown : w.ownsRow base e size v n xs)
    (a : Addr) (m c : Nat) (news : List Value) (hl : news.length = m * size) (hnews : ∀ j u, news[j]? = some u → w.cell? (a.add j) = some u) (h1 : ∀ u ∈ news, u.oneCell' = true)
    (h63 : n + m ≤ maxLen) (hbytes : (n + m) * bytes ≤ 140737488355328) (hbase : base ≤ w.heap.size) :
    ∃ v' w', (Builtin.append_ #[t, t] ty #[v, .slice (some a) m c]).run P w = .ok v' w' ∧ Grew base e size w v v' (n + m) (xs ++ news) w' ∧ ∀ g, v.ownBlock = some g → v'.ownBlock = some g ∨ w'.heap[g]? = w.heap[g]? := by
  obtain ⟨v', w', hr, h2⟩ := run_append_own2 (P := P) w base t ty e i z size bytes ht hi hz hsize hby hzs hsz v n xs hown a m c news hl hnews h1 h63 hbytes hbase
  refine ⟨v', w', hr, h2, fun g hg => ?_⟩
  subst hsize
  subst hby
  have hsmall : n + m ≤ 9223372036854775807 := by simp only [maxLen] at h63; omega
  have hlt := hown.lt g hg
  rcases hown.2 with ⟨rfl, rfl⟩ | ⟨g0, cap, cur, rfl, hbg, hg0, hnc, hcm, hcs, htake⟩
  · cases hg
  · by_cases hroom : n + m ≤ cap
    · have hfit : n * i.size + news.length ≤ cur.size := by rw [hl, hcs, ← Nat.add_mul]; exact Nat.mul_le_mul_right _ hroom
      have hr2 := run_append_room (P := P) w t ty e i ht hi g0 n cap cur hg0 a m c news hl hnews h1 hroom hfit
      rw [hr2] at hr
      injection hr with e1 e2
      subst e1
      exact .inl hg
    · have hr2 := run_append_grow (P := P) w t ty e i z ht hi hz ⟨g0, 0, none⟩ n cap xs hown.1 (hown.cells (g := g0) rfl) a m c news hl hnews (by omega) (by omega) (growslice_fits (by omega) hbytes)
      rw [hr2] at hr
      injection hr with e1 e2
      subst e2
      exact .inr (Below.heap_alloc w.drew _ g hlt.2)
theorem run_append_none (w : World) (base : Nat) (t ty e : TypeId) (i : TypeInfo) (ht : P.underlying t = some (.slice e)) (hi : P.info? e = some i) (v : Value) (n : Nat) (xs : List Value) {size : Nat} (hown : w.ownsRow base e size v n xs) (c : Nat) :
    (Builtin.append_ #[t, t] ty #[v, .slice none 0 c]).run P w = .ok v w := by
  rcases hown.2 with ⟨rfl, rfl⟩ | ⟨g, cap, cur, rfl, _, _, hnc, _⟩
  · simp [Builtin.append_, run_underlying ht, sizeOf, typeInfo, hi, Builtin.lenOf, Builtin.firstCells]
  · simp [Builtin.append_, run_underlying ht, sizeOf, typeInfo, hi, Builtin.lenOf, Builtin.firstCells, hnc, storeCells]
theorem ownBlock_hb {v : Value} {a : Option Addr} {n c : Nat} (h : v = .slice a n c) : v.ownBlock = hb v := by subst h; cases a <;> rfl
/-- an own row's cells -/
theorem own_cells {F : Ft} {w : World} {e : TypeId} {sz : Nat} {d0 : List D} {es : List (List D)} {v : Value} {us : List Value} (h : RD F w (.sl sz d0 es) v) (ho : w.ownsRow 0 e sz v es.length us) : RDL F w es.flatten us ∧ (∀ u ∈ us, u.oneCell' = true) ∧ (∀ x ∈ es, x.length = sz) ∧
    ∀ g, v.ownBlock = some g → ∀ o, o < es.length * sz → F.c g o := by
  simp only [RD] at h
  obtain ⟨a, cap, hv, _, _, hr⟩ := h
  rcases ho.2 with ⟨rfl, h0⟩ | ⟨g, cap', cur, rfl, _, hg, _⟩
  · have : es = [] := List.eq_nil_of_length_eq_zero h0
    subst this
    have : us = [] := List.eq_nil_of_length_eq_zero (by simpa using ho.1)
    subst this
    exact ⟨by simp [RDL], by simp, by simp, fun g hg => by cases hg⟩
  · cases hv
    obtain ⟨vs, h1, h2, h3, h4, h5⟩ := hr.cells
    have hc := fun j u => ho.cells (g := g) rfl j u
    have hl := ho.1
    have : us = vs := by
      refine List.ext_getElem? fun k => ?_
      by_cases hk : k < es.length * sz
      · have e1 : us[k]? = some us[k] := List.getElem?_eq_getElem (by omega)
        have e2 : vs[k]? = some vs[k] := List.getElem?_eq_getElem (by omega)
        have c1 := hc _ _ e1
        have c2 := (h5 _ _ e2).2
        rw [Addr.add_any] at c1
        simp only [Nat.zero_add] at c1 c2
        rw [c1] at c2
        rw [e1, e2, c2]
      · rw [List.getElem?_eq_none (by omega), List.getElem?_eq_none (by omega)]
    subst this
    refine ⟨h1, h3, h4, fun g' hg' o ho' => ?_⟩
    cases hg'
    have e2 : us[o]? = some us[o] := List.getElem?_eq_getElem (by omega)
    simpa using (h5 _ _ e2).1
/-- the row v0 has grown into v' -/
theorem GamS.grow {B : Base} {E : Env} {σ σ1 σ' : Nat → Option Blk} {fr fr' : Nat → Prop} {nx : Nat} {el sz : Nat} {v0 v' : Value} {n m : Nat} {us0 news : List Value} {w' : World} {d0 : List D} {es fs : List (List D)}
    (h : GamS P B σ fr E) (hdp : ∀ b, hb v0 = some b → E.w.heap[b]? ≠ some (.deferred (some []))) (hnx : fr nx) (hfr : ∀ k, fr' k → fr k ∧ k ≠ nx) (hσ : ∀ k, σ' k = if k = nx then some (.tok el sz (es.length + fs.length)) else σ1 k) (h1 : ∀ k y, σ1 k = some y → σ k = some y ∧ ∀ v b, E.η k = some v → hb v = some b → hb v0 ≠ some b) (hσn : σ1 nx = none)
    (hok : ∀ b, hb v0 = some b → okB B E b (fun o => o < n * sz)) (hg : Grew 0 el sz E.w v0 v' (n + m) (us0 ++ news) w') (hkeep : ∀ g, v0.ownBlock = some g → v'.ownBlock = some g ∨ w'.heap[g]? = E.w.heap[g]?) (hv0 : v0.ownBlock = hb v0)
    (hn : n = es.length) (hm : m = fs.length) (hus : us0.length = n * sz) (hcells : ∀ g, hb v0 = some g → ∀ j u, us0[j]? = some u → E.w.cell? ⟨g, j, none⟩ = some u) (hd1 : RDL E.F E.w es.flatten us0) (hd2 : RDL E.F E.w fs.flatten news) (ho1 : ∀ u ∈ us0, u.oneCell' = true) (ho2 : ∀ u ∈ news, u.oneCell' = true) (hl1 : ∀ x ∈ es, x.length = sz) (hl2 : ∀ x ∈ fs, x.length = sz) (hmax : es.length + fs.length ≤ 140737488351232) :
    ∃ E', E'.w = w' ∧ GamS P B σ' fr' E' ∧ Ext E E' ∧ RV E' (.ow nx sz d0 (es ++ fs)) v' ∧ E'.dp = E.dp := by
  obtain ⟨av, cv, hv', hcv⟩ := own_form hg.own
  have hvb : v'.ownBlock = hb v' := ownBlock_hb hv'
  have hnew : ∀ b, hb v' = some b → (E.w.heap.size ≤ b ∨ hb v0 = some b) ∧ b < w'.heap.size := fun b hb' => by
    have h3 := hg.new b (hvb.trans hb')
    have h4 := hg.own.lt b (hvb.trans hb')
    rw [hv0] at h3
    exact ⟨h3, h4.2⟩
  have hsame : ∀ b, b < E.w.heap.size → hb v0 ≠ some b → w'.heap[b]? = E.w.heap[b]? := fun b hb1 hb2 => hg.other hb1 (by rw [hv0]; exact hb2)
  have hsize := hg.by_.size
  have hown := hg.own
  have hcell' : ∀ g, hb v' = some g → ∀ j u, (us0 ++ news)[j]? = some u → w'.cell? ⟨g, j, none⟩ = some u := fun g hg' j u hj => by
    have := hown.cells (g := g) (hvb.trans hg') j u hj
    rwa [Addr.add_any, Nat.zero_add] at this
  let F' : Ft := ⟨fun b o => E.F.c b o ∨ (hb v' = some b ∧ o < (es.length + fs.length) * sz), E.F.m⟩
  have hF : E.F.le F' := ⟨fun _ _ h => .inl h, fun _ h => h⟩
  have hkp : Kp E.F E.w w' := by
    refine ⟨fun b o u hf hu => ?_, fun b hf => hsame b (h.Fm b hf).2 (fun e => (hok b e).2.2.1 hf)⟩
    have hlt := (h.Fc b o hf).2
    by_cases hb0 : hb v0 = some b
    · have ho := (hok b hb0).2.2.2 o hf
      rcases hkeep b (hv0.trans hb0) with h3 | h3
      · have e1 : us0[o]? = some us0[o] := List.getElem?_eq_getElem (by omega)
        have c1 := hcells b hb0 o _ e1
        rw [hu] at c1
        injection c1 with c1
        have e2 : (us0 ++ news)[o]? = some us0[o] := by rw [List.getElem?_append_left (by omega)]; exact e1
        rw [c1]
        exact hcell' b (by rw [← hvb]; exact h3) o _ e2
      · exact cell_kept h3 hu
    · exact cell_kept (hsame b hlt hb0) hu
  let E' : Env := ⟨fun k => if k = nx then some v' else E.η k, F', w', E.dp⟩
  have hηn : E'.η nx = some v' := by simp [E']
  have hηo : ∀ k, k ≠ nx → E'.η k = E.η k := fun k hk => by simp [E', hk]
  have hext : Ext E E' := ⟨fun k v hv => by
    by_cases hk : k = nx
    · subst hk; rw [h.fresh k hnx] at hv; cases hv
    · rw [hηo k hk]; exact hv, hF, hkp⟩
  have hRD : RD F' w' (.sl sz d0 (es ++ fs)) v' := by
    simp only [RD]
    refine ⟨av, cv, by rw [hv', hn, hm, List.length_append], by rw [List.length_append]; omega, by rw [List.length_append]; omega, ?_⟩
    rcases hown.2 with ⟨h3, h4⟩ | ⟨g, cap, cur, h3, _⟩
    · have : es ++ fs = [] := List.eq_nil_of_length_eq_zero (by rw [List.length_append]; omega)
      rw [this]; simp [RR]
    · have hav : av = some ⟨g, 0, none⟩ := by rw [hv'] at h3; cases h3; rfl
      subst hav
      refine RR.of_cells (us := us0 ++ news) (by rw [List.flatten_append]; exact RDL.append (RDL.mono hF hkp _ _ hd1) (RDL.mono hF hkp _ _ hd2)) (fun x hx => (List.mem_append.1 hx).elim (hl1 x) (hl2 x)) (fun u hu => (List.mem_append.1 hu).elim (ho1 u) (ho2 u)) (fun j u hj => ?_)
      have hbv : hb v' = some g := by rw [h3]; rfl
      have hjl := (List.getElem?_eq_some_iff.1 hj).1
      have hnl : (us0 ++ news).length = (es.length + fs.length) * sz := by
        have := hown.1
        rw [this, hn, hm]
      simp only [Nat.zero_add]
      exact ⟨.inr ⟨hbv, by omega⟩, hcell' g hbv j u hj⟩
  have hokNew : ∀ b, hb v' = some b → okB B E' b (fun o => o < (es.length + fs.length) * sz) := fun b hb' => by
    obtain ⟨h3, h4⟩ := hnew b hb'
    refine ⟨?_, h4, ?_, fun o ho => ?_⟩
    · rcases h3 with h3 | h3
      · exact .inl (Nat.le_trans h.size h3)
      · exact (hok b h3).1
    · rcases h3 with h3 | h3
      · exact fun hm' => by have := (h.Fm b hm').2; omega
      · exact (hok b h3).2.2.1
    · rcases ho with ho | ho
      · rcases h3 with h3 | h3
        · have := (h.Fc b o ho).2; omega
        · have := (hok b h3).2.2.2 o ho
          have h6 : n * sz ≤ (es.length + fs.length) * sz := Nat.mul_le_mul_right _ (by omega)
          omega
      · exact ho.2
  refine ⟨E', rfl, ⟨hg.by_.os.trans h.os, hg.by_.tape.trans h.tape, hg.by_.output.trans h.output, Nat.le_trans h.size hsize, fun b hb1 hS => ?_, Ft.le_trans h.F0 hF, fun b o hc => ?_, fun b hc => ?_, fun k y hy => ?_, ?_, fun k hk => ?_, fun D hD => ?_⟩, hext, by simp only [RV]; exact ⟨hηn, hRD⟩, rfl⟩
  · have := hsame b (Nat.lt_of_lt_of_le hb1 h.size) (fun e => by rcases (hok b e).1 with h6 | h6; omega; exact hS h6)
    exact this.trans (h.old b hb1 hS)
  · rcases hc with hc | hc
    · have := h.Fc b o hc; exact ⟨this.1, Nat.lt_of_lt_of_le this.2 hsize⟩
    · obtain ⟨h3, h4⟩ := hnew b hc.1
      refine ⟨?_, h4⟩
      rcases h3 with h3 | h3
      · exact .inr (.inl (Nat.le_trans h.size h3))
      · exact .inr ((hok b h3).1)
  · have := h.Fm b hc; exact ⟨this.1, Nat.lt_of_lt_of_le this.2 hsize⟩
  · rw [hσ] at hy
    by_cases hk : k = nx
    · subst hk
      rw [if_pos rfl] at hy
      cases hy
      exact ⟨v', us0 ++ news, hηn, by rw [← hn, ← hm]; exact hown, hokNew⟩
    · rw [if_neg hk] at hy
      obtain ⟨h3, h4⟩ := h1 k y hy
      have hst := h.st k y h3
      refine hst.keep (fun v hv => by rw [hηo k hk]; exact hv) hext hsize (fun v b hv hb' hlt => hsame b hlt (h4 v b hv hb')) (fun v b p hv hb' hok' => ⟨hok'.1, Nat.lt_of_lt_of_le hok'.2.1 hsize, hok'.2.2.1, fun o ho => ?_⟩)
      rcases ho with ho | ho
      · exact hok'.2.2.2 o ho
      · rcases (hnew b ho.1).1 with h5 | h5
        · have := hok'.2.1; omega
        · exact (h4 v b hv hb' h5).elim
  · intro i j p q b v u hij hp hq hv hu hbv hbu
    rw [hσ] at hp hq
    by_cases hi : i = nx
    · subst hi
      have hj : j ≠ i := fun e => hij e.symm
      rw [if_neg hj] at hq
      rw [hηn] at hv
      cases hv
      rw [hηo j hj] at hu
      obtain ⟨h3, h4⟩ := h1 j q hq
      rcases (hnew b hbv).1 with h5 | h5
      · obtain ⟨pp, hok'⟩ := (h.st j q h3).blk hu hbu
        have := hok'.2.1; omega
      · exact h4 u b hu hbu h5
    · rw [if_neg hi] at hp
      rw [hηo i hi] at hv
      obtain ⟨h3, h4⟩ := h1 i p hp
      by_cases hj : j = nx
      · subst hj
        rw [hηn] at hu
        cases hu
        rcases (hnew b hbu).1 with h5 | h5
        · obtain ⟨pp, hok'⟩ := (h.st i p h3).blk hv hbv
          have := hok'.2.1; omega
        · exact h4 v b hv hbv h5
      · rw [if_neg hj] at hq
        rw [hηo j hj] at hu
        exact h.dist i j p q b v u hij h3 (h1 j q hq).1 hv hu hbv hbu
  · obtain ⟨h3, h4⟩ := hfr k hk
    rw [hηo k h4]; exact h.fresh k h3
  · obtain ⟨d1, d2, d3, d4⟩ := h.dp D hD
    have hlt := (Array.getElem?_eq_some_iff.1 d1).1
    have hne : hb v0 ≠ some D := fun e => hdp D e d1
    refine ⟨(hsame D hlt hne).trans d1, d2, d3, fun o ho => ?_⟩
    rcases ho with ho | ho
    · exact d4 o ho
    · rcases (hnew D ho.1).1 with h5 | h5
      · omega
      · exact hne h5
def apD (st : List (Nat × Blk)) (el : Nat) (i : TyI) (K : List D → List (List D) → List (Nat × Blk) → Prop) : V → Prop
  | .d (.c (.slice none 0 0)) => K (zD i.z) [] st
  | .ow n sz d0 es => match lkB st n with
    | some (.tok e sz' len) => e = el ∧ sz = i.sz ∧ sz' = i.sz ∧ len = es.length ∧ K d0 es (delB n st)
    | _ => False
  | _ => False
def apS (sz : Nat) (K : List (List D) → Prop) : V → Prop
  | .d (.c (.slice none 0 0)) => K []
  | .d (.sl sz' _ fs) => sz' = sz ∧ K fs
  | .ow _ sz' _ fs => sz' = sz ∧ K fs
  | _ => False
/-- append(x, y...) -/
def apK (T : Tab) (st : List (Nat × Blk)) (nx : Nat) (K : V → List (Nat × Blk) → Prop) : List TypeId → List V → Prop
  | [t, t'], [x, y] => t = t' ∧ match ty T t with
    | some ⟨.slice el, _, _, _⟩ => match ty T el with
      | some i => (0 < i.sz ∧ i.z.cells.size = i.sz) ∧ apD st el i (fun d0 es st1 => apS i.sz (fun fs => (es.length + fs.length) * i.by_ ≤ 140737488355328 ∧ es.length + fs.length ≤ 140737488351232 ∧ K (.ow nx i.sz d0 (es ++ fs)) ((nx, .tok el i.sz (es.length + fs.length)) :: st1)) y) x
      | none => False
    | _ => False
  | _, _ => False
theorem apD_ok {st : List (Nat × Blk)} {el : Nat} {i : TyI} {K : List D → List (List D) → List (Nat × Blk) → Prop} {x : V} (h : apD st el i K x) : ∃ d0 es st1, K d0 es st1 ∧ ∀ {B : Base} {fr : Nat → Prop} {E : Env} {v0 : Value}, GamS P B (lkB st) fr E → RV E x v0 →
    ∃ us0, E.w.ownsRow 0 el i.sz v0 es.length us0 ∧ RDL E.F E.w es.flatten us0 ∧ (∀ u ∈ us0, u.oneCell' = true) ∧ (∀ x ∈ es, x.length = i.sz) ∧ (∀ b, hb v0 = some b → okB B E b (fun o => o < es.length * i.sz)) ∧ ∀ k y, lkB st1 k = some y → lkB st k = some y ∧ ∀ v b, E.η k = some v → hb v = some b → hb v0 ≠ some b := by
  unfold apD at h
  split at h <;> try exact h.elim
  · refine ⟨_, _, _, h, fun hg hv => ?_⟩
    simp only [RV, RD] at hv
    subst hv
    exact ⟨[], World.ownsRow_nil _ _ _ _, by simp [RDL], by simp, by simp, fun b hb' => by simp [hb] at hb', fun k y hy => ⟨hy, fun v b _ _ => by simp [hb]⟩⟩
  · rename_i n sz d0 es
    split at h <;> try exact h.elim
    rename_i e sz' len hst
    obtain ⟨rfl, rfl, rfl, rfl, h⟩ := h
    refine ⟨_, _, _, h, fun {B fr E v0} hg hv => ?_⟩
    simp only [RV] at hv
    obtain ⟨v1, us, h1, h2, h3⟩ := hg.st n _ hst
    rw [hv.1] at h1
    cases h1
    obtain ⟨g1, g2, g3, _⟩ := own_cells hv.2 h2
    refine ⟨us, h2, g1, g2, g3, h3, fun k y hy => ?_⟩
    rw [lkB_delB] at hy
    by_cases hk : k = n
    · rw [if_pos hk] at hy; cases hy
    · rw [if_neg hk] at hy
      exact ⟨hy, fun v b hvk hbk hb0 => hg.dist k n y _ b v v0 hk hy hst hvk hv.1 hbk hb0⟩
theorem apS_ok {sz : Nat} {K : List (List D) → Prop} {y : V} (h : apS sz K y) : ∃ fs, K fs ∧ ∀ {E : Env} {u : Value}, RV E y u → (∃ c, u = .slice none 0 c ∧ fs = []) ∨ ∃ ad c news, u = .slice (some ad) fs.length c ∧ RDL E.F E.w fs.flatten news ∧ news.length = fs.length * sz ∧ (∀ x ∈ news, x.oneCell' = true) ∧ (∀ x ∈ fs, x.length = sz) ∧ ∀ j x, news[j]? = some x → E.w.cell? (ad.add j) = some x := by
  have key : ∀ {E : Env} {u : Value} {d0 : List D} {fs : List (List D)}, RD E.F E.w (.sl sz d0 fs) u → (∃ c, u = .slice none 0 c ∧ fs = []) ∨ ∃ ad c news, u = .slice (some ad) fs.length c ∧ RDL E.F E.w fs.flatten news ∧ news.length = fs.length * sz ∧ (∀ x ∈ news, x.oneCell' = true) ∧ (∀ x ∈ fs, x.length = sz) ∧ ∀ j x, news[j]? = some x → E.w.cell? (ad.add j) = some x := fun {E u d0 fs} hu => by
    simp only [RD] at hu
    obtain ⟨a, cap, hv, _, _, hr⟩ := hu
    cases a with
    | none =>
      have := RR.none_nil hr
      subst this
      exact .inl ⟨cap, hv, rfl⟩
    | some ad =>
      cases fs with
      | nil => exact .inr ⟨ad, cap, [], hv, by simp [RDL], by simp, by simp, by simp, by simp⟩
      | cons f fs =>
        obtain ⟨b, o, us, hae, _⟩ := hr.get (i := 0) rfl
        cases hae
        obtain ⟨us, g1, g2, g3, g4, g5⟩ := hr.cells
        refine .inr ⟨⟨b, o, none⟩, cap, us, hv, g1, g2, g3, g4, fun j x hj => ?_⟩
        rw [Addr.add_any]
        simpa using (g5 j x hj).2
  unfold apS at h
  split at h <;> try exact h.elim
  · refine ⟨_, h, fun hu => ?_⟩
    simp only [RV, RD] at hu
    exact .inl ⟨0, hu, rfl⟩
  · obtain ⟨rfl, h⟩ := h
    exact ⟨_, h, fun hu => key (by simpa only [RV] using hu)⟩
  · obtain ⟨rfl, h⟩ := h
    exact ⟨_, h, fun hu => key (by simp only [RV] at hu; exact hu.2)⟩
/-- an append -/
theorem ap_ok {B : Base} {T : Tab} {s : St} {o : Oper} (hT : TabOk P T) {c : Call} (ho : o.op = .call c) (hc : c.callee = .builtin .append) (hco : (c.args.toList.all (constOk B.N)) = true) {K : V → List (Nat × Blk) → Prop} (h : apK T s.st s.nx K c.argTypes.toList (c.args.toList.map (ev (lkT s.tm)))) :
    ∃ v st', K v st' ∧ ∀ E a, Gam P B s E a → ∃ u E', (execOp a.eval o).run P E.w = .ok (.value u) E'.w ∧ GamS P B (lkB st') (fun n => s.nx + 1 ≤ n) E' ∧ Ext E E' ∧ RV E' v u ∧ E'.dp = E.dp := by
  generalize hts : c.argTypes.toList = ts at h
  generalize has : c.args.toList.map (ev (lkT s.tm)) = vs at h
  unfold apK at h
  split at h <;> try exact h.elim
  rename_i t t' x y
  obtain ⟨rfl, h⟩ := h
  have hts' : c.argTypes = #[t, t] := by rw [← Array.toArray_toList (xs := c.argTypes), hts]
  obtain ⟨p, q, h1, h2, h3⟩ := args_two has
  have has' : c.args = #[p, q] := by rw [← Array.toArray_toList (xs := c.args), h1]
  split at h <;> try exact h.elim
  rename_i el sz z bt hi1
  split at h <;> try exact h.elim
  rename_i i hi2
  obtain ⟨⟨hpos, hzs⟩, h⟩ := h
  obtain ⟨d0, es, st1, h, hD⟩ := apD_ok (P := P) h
  obtain ⟨fs, ⟨hby, hmax, hK⟩, hS⟩ := apS_ok h
  refine ⟨_, _, hK, fun E a hg => ?_⟩
  rw [h1] at hco
  simp only [List.all_cons, List.all_nil, Bool.and_true, Bool.and_eq_true] at hco
  have rx := ev_ok hg.2 p hco.1
  have ry := ev_ok hg.2 q hco.2
  rw [h2] at rx
  rw [h3] at ry
  obtain ⟨us0, k1, k2, k3, k4, k5, k6⟩ := hD hg.1 rx
  have ht := (ty_ok hT hi1).2
  have hinf := (ty_ok hT hi2).1
  simp only [kdOk] at ht
  obtain ⟨j, hj, hz, hsz, hbyt⟩ : ∃ j, P.info? el = some j ∧ j.zero = some i.z ∧ j.size = i.sz ∧ j.bytes = i.by_ := by
    cases hj : P.info? el with
    | none => rw [hj] at hinf; cases hinf
    | some j => rw [hj] at hinf; simp at hinf; exact ⟨j, rfl, hinf.2.1, hinf.1, hinf.2.2⟩
  obtain ⟨a0, c0, hv0, _⟩ := own_form k1
  have hgrow : ∃ v' w' news, (Builtin.append_ #[t, t] o.type #[a.eval p, a.eval q]).run P E.w = .ok v' w' ∧ Grew 0 el i.sz E.w (a.eval p) v' (es.length + fs.length) (us0 ++ news) w' ∧ (∀ g, (a.eval p).ownBlock = some g → v'.ownBlock = some g ∨ w'.heap[g]? = E.w.heap[g]?) ∧ RDL E.F E.w fs.flatten news ∧ (∀ u ∈ news, u.oneCell' = true) ∧ ∀ x ∈ fs, x.length = i.sz := by
    rcases hS ry with ⟨c1, hu, rfl⟩ | ⟨ad, c1, news, hu, g1, g2, g3, g4, g5⟩
    · refine ⟨a.eval p, E.w, [], by rw [hu]; exact run_append_none E.w 0 t _ el j ht hj _ _ _ k1 c1, by simpa using Grew.refl k1, fun _ _ => .inr rfl, by simp [RDL], by simp, by simp⟩
    · obtain ⟨v', w', r1, r2, r3⟩ := run_append_own3 (P := P) E.w 0 t o.type el j i.z i.sz i.by_ ht hj hz hsz hbyt hzs hpos (a.eval p) es.length us0 k1 ad fs.length c1 news g2 g5 g3 (by unfold maxLen; omega) hby (Nat.zero_le _)
      exact ⟨v', w', news, by rw [hu]; exact r1, r2, r3, g1, g3, g4⟩
  obtain ⟨v', w', news, r1, r2, r3, r4, r5, r6⟩ := hgrow
  have hσn : lkB st1 s.nx = none := by
    cases hq : lkB st1 s.nx with
    | none => rfl
    | some y =>
      have := hg.1.st _ _ (k6 _ _ hq).1
      have hno := hg.1.fresh s.nx (Nat.le_refl _)
      cases y with
      | cells t cs => obtain ⟨b, us, e1, _⟩ := this; rw [hno] at e1; cases e1
      | tok e sz len => obtain ⟨v, us, e1, _⟩ := this; rw [hno] at e1; cases e1
      | row e sz d0 es => obtain ⟨v, us, e1, _⟩ := this; rw [hno] at e1; cases e1
      | map q k zv z0 es => obtain ⟨b, ms, clock, e1, _⟩ := this; rw [hno] at e1; cases e1
      | loop L st pe => obtain ⟨b, rec, e1, _⟩ := this; rw [hno] at e1; cases e1
  have hdp : ∀ b, hb (a.eval p) = some b → E.w.heap[b]? ≠ some (.deferred (some [])) := fun b hb' => by
    rcases k1.2 with ⟨e1, _⟩ | ⟨g, cap, cur, e1, _, e3, _⟩
    · rw [e1] at hb'; cases hb'
    · rw [e1] at hb'; cases hb'; rw [e3]; simp
  obtain ⟨E', hw, hG, hE, hR, hD⟩ := GamS.grow (d0 := d0) (σ1 := lkB st1) (σ' := lkB ((s.nx, .tok el i.sz (es.length + fs.length)) :: st1)) (fr' := fun n => s.nx + 1 ≤ n) (nx := s.nx) (m := fs.length) hg.1 hdp (Nat.le_refl _) (fun k hk => ⟨by omega, by omega⟩) (fun k => rfl) k6 hσn k5 r2 r3 (ownBlock_hb hv0) rfl rfl k1.1
    (fun g hg' j u hj => by
      have := k1.cells (g := g) ((ownBlock_hb hv0).trans hg') j u hj
      rwa [Addr.add_any, Nat.zero_add] at this) k2 r4 k3 r5 k4 r6 hmax
  refine ⟨v', E', ?_, hG, hE, hR, hD⟩
  rw [hw]
  simp [execOp, ho, resolve, hc, has', hts', invoke, builtin, r1]
end
end Go.Proofs.Ytfmefdeldgmhpaa

namespace Go.Proofs.Ytfmefdeldgmhpaa
set_option linter.unusedVariables false
set_option linter.unusedSimpArgs false
open Go.RowKit
/-- the state behind an operation -/
def nxt (s : St) (d : Option Tmp) (v : V) : Option Blk → St
  | none => ⟨put d v s.tm, s.st, s.nx⟩
  | some x => ⟨put d v s.tm, (s.nx, x) :: s.st, s.nx + 1⟩
def strip : V → V
  | .cond _ v => v
  | v => v
def stripP (g : Bool) : V → Prop
  | .cond h _ => g = true → h = true
  | _ => True
/-- what stands for the value of a call that does not run -/
def zOf (T : Tab) (t : TypeId) : V := match ty T t with
  | some i => ofC i.z
  | none => vB false
/-- whether a guarded operation runs -/
def gOf (ops : Array Oper) (tm : Nat → V) (g : Nat × Bool) : Option Bool :=
  match (ops[g.1]?).bind (·.dst) with
  | some d => match tm d with
    | .d (.c (.bool b)) => some (b == g.2)
    | .cond h (.d (.c (.bool b))) => some (h && (b == g.2))
    | _ => none
  | none => none
def allP (p : V → Prop) : List V → Prop
  | [] => True
  | x :: l => p x ∧ allP p l
/-- a guarded operation: what is known under the guard serves -/
def gop (P : Program) (T : Tab) (b : Bool) (op : Op) (e : Operand → V) (st : Nat → Option Blk) (nm : Nat) (K : HK) : Prop := match op with
  | .pick c x y => stripP b (e c) ∧ pickK (b = true) K (strip (e c)) (e x) (e y)
  | op => allP (stripP b) (op.operands.toList.map e) ∧ hop P T (b = true) op (fun x => strip (e x)) st nm K
/-- one operation more -/
def sop (P : Program) (T : Tab) (ops : Array Oper) (o : Oper) (s : St) (K : St → Prop) : Prop :=
  match o.guard with
  | none => match o.op with
    | .store t x y => match ty T t with
      | some i => stK s.st i.sz (ev (lkT s.tm) y) (fun st' => K ⟨put o.dst (.d (.c undef)) s.tm, st', s.nx⟩) (ev (lkT s.tm) x)
      | none => False
    | .mapUpdate t m x y => mpK P T s.st t (ev (lkT s.tm) x) (fun c es => upM c (ev (lkT s.tm) y) es) (fun st' => K ⟨put o.dst (.d (.c undef)) s.tm, st', s.nx⟩) (ev (lkT s.tm) m)
    | .insert t m x y => mpK P T s.st t (ev (lkT s.tm) x) (fun c es => upM c (ev (lkT s.tm) y) es) (fun st' => K ⟨put o.dst (.d (.c undef)) s.tm, st', s.nx⟩) (ev (lkT s.tm) m)
    | .call ⟨.builtin .delete, asA, ts⟩ => match asA.toList, ts.toList with
      | [m, x], t :: _ => mpK P T s.st t (ev (lkT s.tm) x) dlM (fun st' => K ⟨put o.dst (.tup []) s.tm, st', s.nx⟩) (ev (lkT s.tm) m)
      | _, _ => False
    | .call ⟨.builtin .append, asA, ts⟩ => apK T s.st s.nx (fun v st' => K ⟨put o.dst v s.tm, st', s.nx + 1⟩) ts.toList (asA.toList.map (ev (lkT s.tm)))
    | op => hop P T True op (ev (lkT s.tm)) (lkB s.st) s.nx (fun v x => K (nxt s o.dst v x))
  | some g => match gOf ops (lkT s.tm) g with
    | some b => gop P T b o.op (ev (lkT s.tm)) (lkB s.st) s.nx (fun v x => match x, v with
      | none, v => K ⟨put o.dst (.cond b v) s.tm, s.st, s.nx⟩
      | some _, .ow _ sz d0 es => K ⟨put o.dst (.cond b (.d (.sl sz d0 es))) s.tm, s.st, s.nx⟩
      | _, _ => False)
    | none => False
/-- a token that keeps simp out of K -/
structure TokS (K : St → Prop) : Type where
/-- a call that may read and write what is there -/
def callI (P : Program) (B : Base) (f : FuncId) (vs : List V) (d : Option Tmp) (s : St) (K : St → Prop) (_ : TokS K) : Prop :=
  (P.funcs[f]?).any (fun fn => fn.name != "runtime.NumGoroutine" && fn.body.isSome) = true ∧ ∀ E a us, Gam P B s E a → RVL E vs us →
    Calls P f us.toArray E.w fun e w' => ∃ u E' s', e = .returned u ∧ E'.w = w' ∧ Gam P B s' E' (a.put d u) ∧ K s'
/-- a call of yield -/
def yieldI (P : Program) (B : Base) (n : Nat) (vs : List V) (d : Option Tmp) (s : St) (K : St → Prop) (_ : TokS K) : Prop :=
  B.r = none ∧ ∀ E a l us, Gam P B s E a → E.η n = some (.func (.yield l) #[] #[]) → RVL E vs us → ∃ fn tmps assign body,
    (Instr.yield l us.toArray).run P E.w = .ok (.round l fn tmps assign body) E.w ∧ RoundIn (fen none) 0 P l fn tmps assign body E.w fun e w' => ∃ u E' s', e = .returned u ∧ E'.w = w' ∧ Gam P B s' E' (a.put d u) ∧ K s'
def slotK (P : Program) (B : Base) (fv : V) (asA : List V) (d : Option Tmp) (s : St) (K : St → Prop) : Prop := match fv with
  | .fn f cap => callI P B f (asA ++ cap) d s K ⟨⟩
  | .d (.c (.func (.func f) fst cap)) => (fst = #[] ∧ cap = #[]) ∧ callI P B f asA d s K ⟨⟩
  | .yl n => yieldI P B n asA d s K ⟨⟩
  | _ => False
/-- two ways -/
def Two (b : Bool) (p q : Prop) : Prop := (b = true → p) ∧ (b = false → q)
theorem two_intro {b : Bool} {p q : Prop} (h1 : b = true → p) (h2 : b = false → q) : Two b p q := ⟨h1, h2⟩
/-- two ways, at a guard -/
def TwoG (b : Bool) (p q : Prop) : Prop := (b = true → p) ∧ (b = false → q)
theorem twoG_intro {b : Bool} {p q : Prop} (h1 : b = true → p) (h2 : b = false → q) : TwoG b p q := ⟨h1, h2⟩
def rwp (P : Program) (B : Base) (T : Tab) (ops : Array Oper) : List Oper → St → (St → Prop) → Prop
  | [], s, K => K s
  | o :: rest, s, K => match o.guard with
    | none => match o.op with
      | .call ⟨.value (.tmp t), asA, _⟩ => slotK P B (lkT s.tm t) (asA.toList.map (ev (lkT s.tm))) o.dst s (fun s' => rwp P B T ops rest s' K)
      | .call ⟨.value (.func f), asA, _⟩ => callI P B f (asA.toList.map (ev (lkT s.tm))) o.dst s (fun s' => rwp P B T ops rest s' K) ⟨⟩
      | _ => sop P T ops o s (fun s' => rwp P B T ops rest s' K)
    | some g => match o.op with
      | .call ⟨.value (.tmp t), asA, _⟩ => match gOf ops (lkT s.tm) g with
        | some b => TwoG b (allP (stripP true) (lkT s.tm t :: asA.toList.map (ev (lkT s.tm))) ∧ slotK P B (strip (lkT s.tm t)) (asA.toList.map fun x => strip (ev (lkT s.tm) x)) o.dst s (fun s' => rwp P B T ops rest s' K)) (rwp P B T ops rest ⟨put o.dst (.cond false (zOf T o.type)) s.tm, s.st, s.nx⟩ K)
        | none => False
      | _ => sop P T ops o s (fun s' => rwp P B T ops rest s' K)
/-- constants are of one cell or structs of such; slots are there -/
def opOk (N : Nat) (o : Oper) : Bool := o.op.operands.toList.all (constOk N) && (match o.dst with | some d => decide (d < N) | none => true)
abbrev AQ := Exit → St → Prop
def AQQ (P : Program) (B : Base) (Q : AQ) : Exit → Act → World → Prop := fun x a w => ∃ E s, E.w = w ∧ Gam P B s E a ∧ Q x s
/-- a token that keeps simp out of the code and of what it is walked for -/
structure Tk (c : Code) (Q : AQ) : Type where
def AW (P : Program) (B : Base) (c : Code) (Q : AQ) (_ : Tk c Q) (s : St) : Prop := ∀ E a, Gam P B s E a → c.wpIn (fen B.r) 0 P (AQQ P B Q) a E.w
section
variable {P : Program} {B : Base} {T : Tab} {ops : Array Oper} {o : Oper} {s : St} {K : St → Prop} {Q : AQ}
/-- what an operation does, on the state -/
def Does (P : Program) (B : Base) (ops : Array Oper) (o : Oper) (s s' : St) : Prop :=
  ∀ E a, Gam P B s E a → (Region.wanted o (yielded ops a.tmps) = true → Upon P (fun u w' => ∃ E', E'.w = w' ∧ Gam P B s' E' (a.put o.dst u)) ((execOp a.eval o).run P E.w)) ∧ (Region.wanted o (yielded ops a.tmps) = false → Gam P B s' E (a.put o.dst undef))
theorem does_next {v : V} {x : Option Blk} (ho : opOk B.N o = true) (hg : o.guard = none) (h : HD P o (ev (lkT s.tm)) (lkB s.st) s.nx v x) : Does P B ops o s (nxt s o.dst v x) := by
  intro E a hG
  simp only [opOk, Bool.and_eq_true] at ho
  have hd : ∀ t, o.dst = some t → t < B.N := fun t e => by have := ho.2; rw [e] at this; simpa using this
  have hw : Region.wanted o (yielded ops a.tmps) = true := by simp [Region.wanted, hg]
  refine ⟨fun _ => ?_, fun h' => by rw [hw] at h'; cases h'⟩
  refine (h B E a.eval (fun y hy => ev_ok hG.2 y (List.all_eq_true.1 ho.1 y (by simpa using hy))) (fun f => rfl) hG.1.st hG.1.lt hG.1.size (hG.1.fresh _ (Nat.le_refl _))).mono ?_
  rintro u w' ⟨E', hw', hs, hv, hn⟩
  have hext := hs.ext hG.1.lt (hG.1.fresh _ (Nat.le_refl _))
  have hσn : lkB s.st s.nx = none := by
    cases hq : lkB s.st s.nx with
    | none => rfl
    | some y =>
      have := hG.1.st _ _ hq
      have hno := hG.1.fresh s.nx (Nat.le_refl _)
      cases y with
      | cells t cs => obtain ⟨b, us, e1, _⟩ := this; rw [hno] at e1; cases e1
      | tok e sz len => obtain ⟨v, us, e1, _⟩ := this; rw [hno] at e1; cases e1
      | row e sz d0 es => obtain ⟨v, us, e1, _⟩ := this; rw [hno] at e1; cases e1
      | map q k zv z0 es => obtain ⟨b, ms, clock, e1, _⟩ := this; rw [hno] at e1; cases e1
      | loop L st pe => obtain ⟨b, rec, e1, _⟩ := this; rw [hno] at e1; cases e1
  refine ⟨E', hw', ?_⟩
  cases x with
  | none => exact ⟨hG.1.head (σ' := lkB s.st) hs hn (Nat.le_refl _) (fun n => by split <;> simp_all) hσn (fun n hn' => ⟨hn', fun h => by cases h⟩), (hG.2.ext hext hs.dp).put hv hd⟩
  | some y => exact ⟨hG.1.head (σ' := lkB ((s.nx, y) :: s.st)) (fr' := fun n => s.nx + 1 ≤ n) hs hn (Nat.le_refl _) (fun n => rfl) hσn (fun n hn' => ⟨by omega, fun _ => by omega⟩), (hG.2.ext hext hs.dp).put hv hd⟩
theorem vOf_dst {B : Base} {ops : Array Oper} {k d : Nat} {a : Act} (hops : ∀ o ∈ ops.toList, opOk B.N o = true) (h : ∃ og, ops[k]? = some og ∧ og.dst = some d) : vOf B a d = a.tmps.getD d undef := by
  obtain ⟨og, h1, h2⟩ := h
  have := hops og (by simpa using Array.mem_of_getElem? h1)
  simp only [opOk, Bool.and_eq_true, h2, decide_eq_true_eq] at this
  unfold vOf
  rw [if_pos this.2]
theorem gOf_ok {g : Nat × Bool} {b : Bool} {E : Env} {a : Act} (hops : ∀ o ∈ ops.toList, opOk B.N o = true) (h : gOf ops (lkT s.tm) g = some b) (hG : Gam P B s E a) (hg : o.guard = some g) : Region.wanted o (yielded ops a.tmps) = b := by
  unfold gOf at h
  split at h
  · rename_i d hd
    have hdo : ∃ og, ops[g.1]? = some og ∧ og.dst = some d := by
      cases ho : ops[g.1]? with
      | none => rw [ho] at hd; cases hd
      | some og => rw [ho] at hd; exact ⟨og, rfl, by simpa using hd⟩
    obtain ⟨og, ho, hdst⟩ := hdo
    have hv := hG.2.tm d
    rw [vOf_dst hops ⟨og, ho, hdst⟩] at hv
    have hy : yielded ops a.tmps g.1 = match a.tmps.getD d undef with | .bool b => some b | _ => none := by
      simp only [yielded, ho, Option.bind_some, hdst]
      cases hq : a.tmps[d]? with
      | none => simp [Array.getD_eq_getD_getElem?, hq, undef]
      | some q => simp only [Array.getD_eq_getD_getElem?, hq, Option.getD_some]; cases q <;> rfl
    have hw : Region.wanted o (yielded ops a.tmps) = (yielded ops a.tmps g.1 == some g.2) := by
      unfold Region.wanted; rw [hg]
    rw [hw, hy]
    split at h
    · rename_i b' hb'
      cases h
      rw [hb'] at hv
      simp only [RV, RD] at hv
      rw [hv]
      simp
    · rename_i h' b' hb'
      cases h
      rw [hb'] at hv
      simp only [RV, RD] at hv
      cases h' with
      | true => rw [hv.1 rfl]; simp
      | false => rw [hv.2 rfl]; simp [undef]
    · cases h
  · cases h
theorem allP_mem {p : V → Prop} : ∀ {l : List V}, allP p l → ∀ x ∈ l, p x
  | [], _, x, hx => by cases hx
  | y :: l, h, x, hx => by
    rcases List.mem_cons.1 hx with rfl | hx
    · exact h.1
    · exact allP_mem h.2 x hx
theorem strip_ok {E : Env} {b : Bool} {x : V} {v : Value} (hb : b = true) (hp : stripP b x) (hv : RV E x v) : RV E (strip x) v := by
  cases x <;> simp only [strip, stripP] at * <;> try exact hv
  simp only [RV] at hv
  exact hv.1 (hp hb)
theorem hd_strip {b : Bool} {e : Operand → V} {st : Nat → Option Blk} {nm : Nat} {v : V} {x : Option Blk} (hb : b = true) (hp : allP (stripP b) (o.op.operands.toList.map e)) (h : HD P o (fun x => strip (e x)) st nm v x) : HD P o e st nm v x := by
  intro B E ρ h1 h2 h3 h4 h5 h6
  exact h B E ρ (fun y hy => strip_ok hb (allP_mem hp _ (List.mem_map_of_mem (by simpa using hy))) (h1 y hy)) h2 h3 h4 h5 h6
theorem gop_ok (hT : TabOk P T) {b : Bool} {e : Operand → V} {st : Nat → Option Blk} {nm : Nat} {K : HK} (h : gop P T b o.op e st nm K) : ∃ v x, K v x ∧ (b = true → HD P o e st nm v x) := by
  unfold gop at h
  split at h
  · rename_i c x y ho
    obtain ⟨hp, h⟩ := h
    have lit : ∀ {z : Operand} {p : Bool}, e z = .d (.c (.bool p)) → ∀ E v, RV E (e z) v → v = .bool p := fun hz E v hv => by rw [hz] at hv; simpa only [RV, RD] using hv
    have cnd : ∀ {z : Operand} {p g : Bool}, e z = .cond g (.d (.c (.bool p))) → g = true → ∀ E v, RV E (e z) v → v = .bool p := fun hz hg E v hv => by rw [hz] at hv; simp only [RV, RD] at hv; exact hv.1 hg
    generalize hc : strip (e c) = cb at h
    generalize hx : e x = u at h
    generalize hy : e y = w at h
    have hcb : ∀ {p : Bool}, cb = .d (.c (.bool p)) → b = true → ∀ E v, RV E (e c) v → v = .bool p := fun hz hb E v hv => by
      have := strip_ok hb hp hv
      rw [hc, hz] at this
      simpa only [RV, RD] using this
    unfold pickK at h
    split at h <;> try exact h.elim
    · exact ⟨_, none, h, fun hb => hd_pick' ho (hcb rfl hb) (fun _ => lit hx) (fun _ => lit hy)⟩
    · exact ⟨_, none, h.2, fun hb => hd_pick' ho (hcb rfl hb) (fun h1 => cnd hx (h.1 hb h1)) (fun _ => lit hy)⟩
    · exact ⟨_, none, h.2, fun hb => hd_pick' ho (hcb rfl hb) (fun _ => lit hx) (fun h1 => cnd hy (h.1 hb h1))⟩
  · obtain ⟨hp, h⟩ := h
    obtain ⟨v, x, hK, hd⟩ := hop_ok hT h
    exact ⟨v, x, hK, fun hb => hd_strip hb hp (hd hb)⟩
/-- a guarded operation; the new block, if there is one, is forgotten -/
theorem does_guard {g : Nat × Bool} {b : Bool} {v v' : V} {x : Option Blk} (hops : ∀ o ∈ ops.toList, opOk B.N o = true) (ho : opOk B.N o = true) (hg : o.guard = some g) (hgo : gOf ops (lkT s.tm) g = some b)
    (h : b = true → HD P o (ev (lkT s.tm)) (lkB s.st) s.nx v x) (hv' : ∀ E E' u, E'.η = E.η ∨ True → RV E v u → E'.F = E.F → E'.w = E.w → E'.dp = E.dp → (x = none → E'.η = E.η) → RV E' v' u) : Does P B ops o s ⟨put o.dst (.cond b v') s.tm, s.st, s.nx⟩ := by
  intro E a hG
  simp only [opOk, Bool.and_eq_true] at ho
  have hd : ∀ t, o.dst = some t → t < B.N := fun t e => by have := ho.2; rw [e] at this; simpa using this
  have hw := gOf_ok (P := P) (o := o) hops hgo hG hg
  refine ⟨fun hw1 => ?_, fun hw1 => ?_⟩
  · rw [hw] at hw1
    refine (h hw1 B E a.eval (fun y hy => ev_ok hG.2 y (List.all_eq_true.1 ho.1 y (by simpa using hy))) (fun f => rfl) hG.1.st hG.1.lt hG.1.size (hG.1.fresh _ (Nat.le_refl _))).mono ?_
    rintro u w' ⟨E', hw', hs, hv, hn⟩
    -- the name is taken back
    let E2 : Env := ⟨E.η, E'.F, E'.w, E.dp⟩
    have hs2 : HStep E E2 s.nx := ⟨hs.by_, fun _ _ => rfl, hs.F, rfl⟩
    have hext := hs2.ext hG.1.lt (hG.1.fresh _ (Nat.le_refl _))
    have hno := hG.1.fresh s.nx (Nat.le_refl _)
    have hσn : lkB s.st s.nx = none := by
      cases hq : lkB s.st s.nx with
      | none => rfl
      | some y =>
        have := hG.1.st _ _ hq
        cases y with
        | cells t cs => obtain ⟨b, us, e1, _⟩ := this; rw [hno] at e1; cases e1
        | tok e sz len => obtain ⟨v, us, e1, _⟩ := this; rw [hno] at e1; cases e1
        | row e sz d0 es => obtain ⟨v, us, e1, _⟩ := this; rw [hno] at e1; cases e1
        | map q k zv z0 es => obtain ⟨b, ms, clock, e1, _⟩ := this; rw [hno] at e1; cases e1
        | loop L st pe => obtain ⟨b, rec, e1, _⟩ := this; rw [hno] at e1; cases e1
    refine ⟨E2, hw', hG.1.head (σ' := lkB s.st) (x := none) hs2 rfl (Nat.le_refl _) (fun n => by split <;> simp_all) hσn (fun n hn' => ⟨hn', fun h => by cases h⟩), (hG.2.ext hext rfl).put ?_ hd⟩
    simp only [RV]
    refine ⟨fun _ => hv' E' E2 u (.inr trivial) hv (by rfl) (by rfl) hs.dp.symm (fun hx => ?_), fun hb => by rw [hw1] at hb; cases hb⟩
    subst hx
    simp only [NewB] at hn
    funext n
    by_cases hnn : n = s.nx
    · subst hnn; exact hn.symm
    · exact (hs.η n hnn).symm
  · rw [hw] at hw1
    refine ⟨hG.1, hG.2.put ?_ hd⟩
    simp only [RV]
    exact ⟨fun hb => (by rw [hw1] at hb; cases hb), fun _ => trivial⟩
theorem does_store {t : Nat} {i : TyI} (hi : TyOk P t i) {x y : Operand} (ho : opOk B.N o = true) (hg : o.guard = none) (hop : o.op = .store t x y) {K : List (Nat × Blk) → Prop} (h : stK s.st i.sz (ev (lkT s.tm) y) K (ev (lkT s.tm) x)) :
    ∃ st', K st' ∧ Does P B ops o s ⟨put o.dst (.d (.c undef)) s.tm, st', s.nx⟩ := by
  simp only [opOk, Bool.and_eq_true] at ho
  have hd : ∀ t, o.dst = some t → t < B.N := fun t e => by have := ho.2; rw [e] at this; simpa using this
  have hmem : ∀ z ∈ o.op.operands, constOk B.N z = true := fun z hz => List.all_eq_true.1 ho.1 z (by simpa using hz)
  obtain ⟨st', hK, hst⟩ := st_ok (P := P) (B := B) (s := s) (o := o) hi hop (hmem x (by simp [hop, Op.operands])) (hmem y (by simp [hop, Op.operands])) h
  refine ⟨st', hK, fun E a hG => ?_⟩
  have hw : Region.wanted o (yielded ops a.tmps) = true := by simp [Region.wanted, hg]
  refine ⟨fun _ => ?_, fun h' => by rw [hw] at h'; cases h'⟩
  obtain ⟨E', hr, h1, h2⟩ := hst E a hG
  rw [hr]
  exact ⟨E', rfl, h1, (hG.2.ext h2.1 h2.2).put (by simp [RV, RD]) hd⟩
theorem does_of {r : Next} {u : Value} {v : V} {st' : List (Nat × Blk)} (hr0 : (r = .skip ∧ u = undef) ∨ r = .value u) (hu : ∀ E, RV E v u) (ho : opOk B.N o = true) (hg : o.guard = none)
    (hst : ∀ E a, Gam P B s E a → ∃ E', (execOp a.eval o).run P E.w = .ok r E'.w ∧ GamS P B (lkB st') (fun n => s.nx ≤ n) E' ∧ Ext E E' ∧ E'.dp = E.dp) : Does P B ops o s ⟨put o.dst v s.tm, st', s.nx⟩ := by
  simp only [opOk, Bool.and_eq_true] at ho
  have hd : ∀ t, o.dst = some t → t < B.N := fun t e => by have := ho.2; rw [e] at this; simpa using this
  intro E a hG
  have hw : Region.wanted o (yielded ops a.tmps) = true := by simp [Region.wanted, hg]
  refine ⟨fun _ => ?_, fun h' => by rw [hw] at h'; cases h'⟩
  obtain ⟨E', hr, h1, h2⟩ := hst E a hG
  rw [hr]
  rcases hr0 with ⟨rfl, rfl⟩ | rfl
  · exact ⟨E', rfl, h1, (hG.2.ext h2.1 h2.2).put (hu _) hd⟩
  · exact ⟨E', rfl, h1, (hG.2.ext h2.1 h2.2).put (hu _) hd⟩
theorem opOk_mem {N : Nat} {o : Oper} (ho : opOk N o = true) : ∀ z ∈ o.op.operands, constOk N z = true := fun z hz => by
  simp only [opOk, Bool.and_eq_true] at ho
  exact List.all_eq_true.1 ho.1 z (by simpa using hz)
theorem does_append (hT : TabOk P T) {c : Call} (ho : opOk B.N o = true) (hg : o.guard = none) (hop : o.op = .call c) (hc : c.callee = .builtin .append) {K : V → List (Nat × Blk) → Prop} (h : apK T s.st s.nx K c.argTypes.toList (c.args.toList.map (ev (lkT s.tm)))) :
    ∃ v st', K v st' ∧ Does P B ops o s ⟨put o.dst v s.tm, st', s.nx + 1⟩ := by
  simp only [opOk, Bool.and_eq_true] at ho
  have hd : ∀ t, o.dst = some t → t < B.N := fun t e => by have := ho.2; rw [e] at this; simpa using this
  obtain ⟨v, st', hK, hst⟩ := ap_ok (P := P) (B := B) (s := s) (o := o) hT hop hc (List.all_eq_true.2 fun z hz => List.all_eq_true.1 ho.1 z (by simp [hop, Op.operands, Call.operands, hc]; simpa using hz)) h
  refine ⟨v, st', hK, fun E a hG => ?_⟩
  have hw : Region.wanted o (yielded ops a.tmps) = true := by simp [Region.wanted, hg]
  refine ⟨fun _ => ?_, fun h' => by rw [hw] at h'; cases h'⟩
  obtain ⟨u, E', hr, h1, h2, h3, h4⟩ := hst E a hG
  rw [hr]
  exact ⟨E', rfl, h1, (hG.2.ext h2 h4).put h3 hd⟩
theorem sop_ok (hT : TabOk P T) (hops : ∀ o ∈ ops.toList, opOk B.N o = true) (ho : opOk B.N o = true) (h : sop P T ops o s K) : ∃ s', K s' ∧ Does P B ops o s s' := by
  unfold sop at h
  split at h
  · rename_i hg
    split at h
    · rename_i t x y hop
      split at h <;> try exact h.elim
      rename_i i hi
      obtain ⟨st', hK, hd⟩ := does_store (ops := ops) (ty_ok hT hi) ho hg hop h
      exact ⟨_, hK, hd⟩
    · rename_i t m x y hop
      obtain ⟨st', hK, hst⟩ := mu_ok (P := P) (B := B) (s := s) (o := o) hT (.inl hop) (opOk_mem ho m (by simp [hop, Op.operands])) (opOk_mem ho x (by simp [hop, Op.operands])) (opOk_mem ho y (by simp [hop, Op.operands])) h
      exact ⟨_, hK, does_of (.inl ⟨rfl, rfl⟩) (fun E => by simp [RV, RD]) ho hg hst⟩
    · rename_i t m x y hop
      obtain ⟨st', hK, hst⟩ := mu_ok (P := P) (B := B) (s := s) (o := o) hT (.inr hop) (opOk_mem ho m (by simp [hop, Op.operands])) (opOk_mem ho x (by simp [hop, Op.operands])) (opOk_mem ho y (by simp [hop, Op.operands])) h
      exact ⟨_, hK, does_of (.inl ⟨rfl, rfl⟩) (fun E => by simp [RV, RD]) ho hg hst⟩
    · rename_i asA ts hop
      split at h <;> try exact h.elim
      rename_i m x t rest has hts
      have has' : asA = #[m, x] := by cases asA; simp_all
      obtain ⟨st', hK, hst⟩ := de_ok (P := P) (B := B) (s := s) (o := o) hT (t := t) (rest := rest) hop rfl (by cases ts; simp_all) has' (opOk_mem ho m (by simp [hop, Op.operands, Call.operands, has'])) (opOk_mem ho x (by simp [hop, Op.operands, Call.operands, has'])) h
      exact ⟨_, hK, does_of (.inr rfl) (fun E => by simp [RV, RVL]) ho hg hst⟩
    · rename_i asA ts hop
      obtain ⟨v, st', hK, hd⟩ := does_append (ops := ops) hT ho hg hop rfl h
      exact ⟨_, hK, hd⟩
    · obtain ⟨v, x, hK, hd⟩ := hop_ok hT h
      exact ⟨_, hK, does_next ho hg (hd trivial)⟩
  · rename_i g hg
    split at h <;> try exact h.elim
    rename_i b hgo
    obtain ⟨v, x, hK, hd⟩ := gop_ok hT h
    split at hK
    · exact ⟨_, hK, does_guard hops ho hg hgo hd (fun E E' u _ hv hF hw hdp hη => by
        have : E' = E := by
          cases E; cases E'
          have hη := hη rfl
          simp only at hF hw hη hdp
          rw [hF, hw, hη, hdp]
        rw [this]; exact hv)⟩
    · rename_i y n sz d0 es
      refine ⟨_, hK, does_guard hops ho hg hgo hd (fun E E' u _ hv hF hw hdp hη => ?_)⟩
      simp only [RV] at hv ⊢
      rw [hF, hw]
      exact hv.2
    · exact hK.elim
theorem slot_ok {x : Operand} {asA : Array Operand} {ts : Array TypeId} (hop : o.op = .call ⟨.value x, asA, ts⟩) {fv : V} {vs : List V} (hF : ∀ E a, Gam P B s E a → RV E fv (a.eval x)) (hA : ∀ E a, Gam P B s E a → RVL E vs (asA.toList.map a.eval)) (h : slotK P B fv vs o.dst s K) {Q : Exit → Act → World → Prop} {N : Act → World → Prop}
    (hN : ∀ s' E a, K s' → Gam P B s' E a → N a E.w) : ∀ E a, Gam P B s E a → o.wpIn (fen B.r) 0 P a E.w N Q := by
  intro E a hG
  have hargs := hA E a hG
  have hmap : asA.map a.eval = (asA.toList.map a.eval).toArray := by rw [← Array.toList_map, Array.toArray_toList]
  have hfv := hF E a hG
  have fin : ∀ (f : FuncId) (cap : List V) (us : List Value), callI P B f (vs ++ cap) o.dst s K ⟨⟩ → a.eval x = .func (.func f) #[] us.toArray → RVL E cap us → o.wpIn (fen B.r) 0 P a E.w N Q := by
    intro f cap us hc hv hu
    have hrun : (execOp a.eval o).run P E.w = .ok (.enter f (asA.toList.map a.eval ++ us).toArray) E.w := by
      have : (asA.toList.map a.eval ++ us).toArray = asA.map a.eval ++ us.toArray := by rw [hmap]; simp
      rw [this]
      simp [execOp, hop, resolve, hv, Deferred.ofValue, invoke, run_callFunc hc.1]
    refine Upon.wpIn (R := fun u w' => ∃ E' s', E'.w = w' ∧ Gam P B s' E' (a.put o.dst u) ∧ K s') ?_ (fun v w' ⟨E', s', e, hG', hK⟩ => by subst e; exact hN s' E' _ hK hG')
    rw [hrun]
    simp only [Upon]
    exact (hc.2 E a _ hG (RVL.append hargs hu)).mono fun e w' ⟨u, E', s', h1, h2⟩ => ⟨u, h1, E', s', h2⟩
  unfold slotK at h
  split at h <;> try exact h.elim
  · simp only [RV] at hfv
    obtain ⟨us, h1, h2⟩ := hfv
    exact fin _ _ us h h1 h2
  · obtain ⟨⟨rfl, rfl⟩, h⟩ := h
    simp only [RV, RD] at hfv
    exact fin _ [] [] (by simpa using h) hfv (by simp [RVL])
  · simp only [RV] at hfv
    obtain ⟨h1, l, h2⟩ := hfv
    obtain ⟨hr, hy⟩ := h
    obtain ⟨fn, tmps, assign, body, g1, g2⟩ := hy E a l _ hG (by rw [h1, h2]) hargs
    rw [hr]
    refine ⟨fun _ _ => trivial, ?_⟩
    have hrun : ((Oper.semAt (fen none).round a.eval o).run P E.w) = .ok (.round l fn tmps assign body) E.w := by
      show (execOp a.eval o).run P E.w = _
      rw [← g1, ← hmap]
      simp [execOp, hop, resolve, h2, Deferred.ofValue, invoke]
    rw [hrun]
    refine ⟨fun h => (by cases h), ?_⟩
    refine g2.mono ?_
    rintro e w' ⟨u, E', s', rfl, rfl, hG', hK⟩
    exact hN s' E' _ hK hG'
/-- a region in the order of its text -/
theorem rwp_list (hT : TabOk P T) (hops : ∀ o ∈ ops.toList, opOk B.N o = true) {Q : Exit → Act → World → Prop} : ∀ (l : List Oper) (s : St) (K : St → Prop), (l.all (opOk B.N)) = true → rwp P B T ops l s K → (∀ s', K s' → ∀ E a, Gam P B s' E a → Q .normal a E.w) → ∀ E a, Gam P B s E a → wpListIn (fen B.r) 0 P ops Q l a E.w
  | [], s, K, _, h, hQ, E, a, hG => hQ s h E a hG
  | o :: l, s, K, ho, h, hQ, E, a, hG => by
    simp only [List.all_cons, Bool.and_eq_true] at ho
    have plain : sop P T ops o s (fun s' => rwp P B T ops l s' K) → wpListIn (fen B.r) 0 P ops Q (o :: l) a E.w := fun h => by
      obtain ⟨s', hK, hd⟩ := sop_ok (B := B) hT hops ho.1 h
      have ih := rwp_list hT hops l s' K ho.2 hK hQ
      obtain ⟨h1, h2⟩ := hd E a hG
      unfold wpListIn
      cases hw : Region.wanted o (yielded ops a.tmps) with
      | true =>
        rw [if_pos rfl]
        refine (h1 hw).wpIn fun v w' ⟨E', e, hG'⟩ => ?_
        subst e
        exact ih E' _ hG'
      | false =>
        rw [if_neg (by simp)]
        exact ⟨fun _ _ => trivial, ih E _ (h2 hw)⟩
    have hm := opOk_mem ho.1
    have hev : ∀ E a, Gam P B s E a → ∀ y ∈ o.op.operands, RV E (ev (lkT s.tm) y) (a.eval y) := fun E a hG y hy => ev_ok hG.2 y (hm y hy)
    unfold rwp at h
    split at h
    · rename_i hg
      have hw : Region.wanted o (yielded ops a.tmps) = true := by simp [Region.wanted, hg]
      split at h
      · rename_i t asA ts hop
        unfold wpListIn
        rw [if_pos hw]
        exact slot_ok hop (fun E a hG => hev E a hG (.tmp t) (by simp [hop, Op.operands, Call.operands])) (fun E a hG => RVL.of_forall _ (fun x hx => hev E a hG x (by simp only [hop, Op.operands, Call.operands]; simp [Array.mem_toList_iff.1 hx]))) h (fun s' E' a' hK hG' => rwp_list hT hops l s' K ho.2 hK hQ E' a' hG') E a hG
      · rename_i f asA ts hop
        unfold wpListIn
        rw [if_pos hw]
        exact slot_ok hop (fv := .d (.c (.func (.func f) #[] #[]))) (fun E a hG => hev E a hG (.func f) (by simp [hop, Op.operands, Call.operands])) (fun E a hG => RVL.of_forall _ (fun x hx => hev E a hG x (by simp only [hop, Op.operands, Call.operands]; simp [Array.mem_toList_iff.1 hx]))) ⟨⟨rfl, rfl⟩, h⟩ (fun s' E' a' hK hG' => rwp_list hT hops l s' K ho.2 hK hQ E' a' hG') E a hG
      · exact plain h
    · rename_i g hg
      split at h
      · rename_i t asA ts hop
        split at h <;> try exact h.elim
        rename_i b hgo
        have hwb := gOf_ok (P := P) (o := o) hops hgo hG hg
        unfold wpListIn
        cases b with
        | true =>
          obtain ⟨hs, h⟩ := h.1 rfl
          simp only [allP] at hs
          rw [if_pos hwb]
          exact slot_ok hop (fun E a hG => strip_ok (b := true) rfl hs.1 (hev E a hG (.tmp t) (by simp [hop, Op.operands, Call.operands]))) (fun E a hG => RVL.of_forall (e := fun x => strip (ev (lkT s.tm) x)) _ (fun x hx => strip_ok (b := true) rfl (allP_mem hs.2 _ (List.mem_map_of_mem hx)) (hev E a hG x (by simp only [hop, Op.operands, Call.operands]; simp [Array.mem_toList_iff.1 hx])))) h (fun s' E' a' hK hG' => rwp_list hT hops l s' K ho.2 hK hQ E' a' hG') E a hG
        | false =>
          have h := h.2 rfl
          rw [if_neg (by rw [hwb]; simp)]
          refine ⟨fun _ _ => trivial, rwp_list hT hops l _ K ho.2 h hQ E _ ⟨hG.1, hG.2.put (by simp [RV]) ?_⟩⟩
          intro t' e
          have := ho.1
          simp only [opOk, Bool.and_eq_true] at this
          have := this.2
          rw [e] at this
          simpa using this
      · exact plain h
theorem aw_region {id : Nat} {l : List Oper} (hT : TabOk P T) (hl : (l.all (opOk B.N)) = true) (h : rwp P B T l.toArray l s (Q .normal)) : AW P B (.region id l.toArray false) Q ⟨⟩ s :=
  fun E a hG => wpIn_region_lit (rwp_list hT (fun o ho => List.all_eq_true.1 hl o ho) l s _ hl h (fun s' hs E a hG => ⟨E, s', rfl, hG, hs⟩) E a hG)
theorem aw_regionA {id : Nat} {ops : Array Oper} (hT : TabOk P T) (hl : (ops.toList.all (opOk B.N)) = true) (h : rwp P B T ops ops.toList s (Q .normal)) : AW P B (.region id ops false) Q ⟨⟩ s :=
  aw_region (l := ops.toList) hT hl h
theorem aw_seq {x y : Code} (h : AW P B x (fun e s' => match e with | .normal => AW P B y Q ⟨⟩ s' | e => Q e s') ⟨⟩ s) : AW P B (.seq x y) Q ⟨⟩ s := fun E a hG => by
  refine wpIn_seq (Code.wpIn_mono ?_ (h E a hG))
  rintro e a' w' ⟨E', s', rfl, hG', hq⟩
  cases e <;> first | exact hq E' a' hG' | exact ⟨E', s', rfl, hG', hq⟩
theorem aw_skip (h : Q .normal s) : AW P B .skip Q ⟨⟩ s := fun E a hG => wpIn_skip ⟨E, s, rfl, hG, h⟩
theorem aw_exit {id : Nat} (h : Q (.exit id) s) : AW P B (.exit id) Q ⟨⟩ s := fun E a hG => wpIn_exit ⟨E, s, rfl, hG, h⟩
theorem aw_ret (h : Q .ret s) : AW P B .ret Q ⟨⟩ s := fun E a hG => wpIn_ret ⟨E, s, rfl, hG, h⟩
theorem aw_block {id : Nat} {c : Code} (h : AW P B c (fun e s' => match e with | .exit i => (if i = id then Q .normal s' else Q (.exit i) s') | e => Q e s') ⟨⟩ s) : AW P B (.block id c) Q ⟨⟩ s := fun E a hG => by
  refine wpIn_block (Code.wpIn_mono ?_ (h E a hG))
  rintro e a' w' ⟨E', s', rfl, hG', hq⟩
  cases e with
  | exit i =>
    simp only [Exit.inBlock]
    simp only at hq
    split at hq
    · rename_i hi; rw [if_pos hi]; exact ⟨E', s', rfl, hG', hq⟩
    · rename_i hi; rw [if_neg hi]; exact ⟨E', s', rfl, hG', hq⟩
  | _ => exact ⟨E', s', rfl, hG', hq⟩
theorem aw_cond {c : Operand} {x y : Code} {b : Bool} (hc : ev (lkT s.tm) c = .d (.c (.bool b))) (hco : constOk B.N c = true) (h1 : b = true → AW P B x Q ⟨⟩ s) (h2 : b = false → AW P B y Q ⟨⟩ s) : AW P B (.cond c x y) Q ⟨⟩ s := fun E a hG => by
  have hv := ev_ok hG.2 c hco
  rw [hc] at hv
  simp only [RV, RD] at hv
  exact wpIn_cond_split hv (fun hb => h1 hb E a hG) (fun hb => h2 hb E a hG)
theorem aw_condM {c : Operand} {x y : Code} (hco : constOk B.N c = true) (h : match ev (lkT s.tm) c with | .d (.c (.bool b)) => Two b (AW P B x Q ⟨⟩ s) (AW P B y Q ⟨⟩ s) | _ => False) : AW P B (.cond c x y) Q ⟨⟩ s := by
  split at h <;> try exact h.elim
  rename_i b hc
  exact aw_cond hc hco h.1 h.2
/-- a loop: an invariant that bears a number, which every round lowers -/
theorem aw_loop {c : Code} (I : Nat → St → Prop) (n0 : Nat) (h0 : I n0 s) (round : ∀ n s, I n s → AW P B c (fun e s' => match e with | .normal => ∃ n', n' < n ∧ I n' s' | e => Q e s') ⟨⟩ s) : AW P B (.loop c) Q ⟨⟩ s := fun E a hG => by
  refine wpIn_loop_ghost (fun n a w => ∃ E s, E.w = w ∧ Gam P B s E a ∧ I n s) n0 ⟨E, s, rfl, hG, h0⟩ ?_
  rintro n a w ⟨E, s, rfl, hG, hI⟩
  refine Code.wpIn_mono ?_ (round n s hI E a hG)
  rintro e a' w' ⟨E', s', rfl, hG', hq⟩
  cases e with
  | normal =>
    obtain ⟨n', h1, h2⟩ := hq
    exact ⟨n', h1, E', s', rfl, hG', h2⟩
  | _ => exact ⟨E', s', rfl, hG', hq⟩
theorem callK_intro {G : Prop} {nm : Nat} {f : FuncId} {vs : List V} {K : HK} {asA : List A} {r : Ret} (h : Spec P f asA r) (ha : toAs vs = some asA) (hf : (P.funcs[f]?).any (fun fn => fn.name != "runtime.NumGoroutine" && fn.body.isSome) = true) (hK : K (ofRet r) none) : callK P G nm f vs K ⟨⟩ := .inl ⟨asA, r, ha, fun _ => h, hf, hK⟩
theorem callK_own {G : Prop} {nm : Nat} {f : FuncId} {vs : List V} {K : HK} {asA : List A} {el sz : Nat} {d0 : List D} {es : List (List D)} (h : SpecO P f asA el sz d0 es) (ha : toAs vs = some asA) (hf : (P.funcs[f]?).any (fun fn => fn.name != "runtime.NumGoroutine" && fn.body.isSome) = true) (hK : K (.mo nm) (some (.row el sz (dV d0) (es.map dV)))) : callK P G nm f vs K ⟨⟩ := .inr ⟨asA, el, sz, d0, es, ha, fun _ => h, hf, hK⟩
/-- slots are forgotten -/
def keepT (ks : List Nat) : List (Nat × V) → List (Nat × V)
  | [] => []
  | (u, x) :: l => if ks.contains u = true then (u, x) :: keepT ks l else keepT ks l
theorem lkT_keepT (ks : List Nat) (t : Nat) : ∀ (l : List (Nat × V)), lkT (keepT ks l) t = if ks.contains t = true then lkT l t else .any
  | [] => by simp [keepT, lkT]
  | (u, x) :: l => by
    have ih := lkT_keepT ks t l
    unfold keepT
    by_cases h : ks.contains u = true
    · rw [if_pos h]
      simp only [lkT]
      by_cases h2 : t = u
      · subst h2; rw [if_pos rfl, if_pos h, if_pos rfl]
      · rw [if_neg h2, if_neg h2, ih]
    · rw [if_neg h, ih]
      simp only [lkT]
      by_cases h2 : t = u
      · subst h2; rw [if_neg h, if_neg h]
      · rw [if_neg h2]
theorem gam_keep {ks : List Nat} {E : Env} {a : Act} (h : Gam P B s E a) : Gam P B ⟨keepT ks s.tm, s.st, s.nx⟩ E a := by
  refine ⟨h.1, fun t => ?_, h.2.defers, h.2.size⟩
  simp only [lkT_keepT]
  split
  · exact h.2.tm t
  · simp only [RV]
/-- less may be known -/
theorem aw_weak {c : Code} {s1 : St} (h : ∀ E a, Gam P B s E a → ∃ E', E'.w = E.w ∧ Gam P B s1 E' a) (h1 : AW P B c Q ⟨⟩ s1) : AW P B c Q ⟨⟩ s := fun E a hG => by
  obtain ⟨E', e, hG'⟩ := h E a hG
  have := h1 E' a hG'
  rwa [e] at this
theorem aw_keep (ks : List Nat) {c : Code} (h : AW P B c Q ⟨⟩ ⟨keepT ks s.tm, s.st, s.nx⟩) : AW P B c Q ⟨⟩ s := aw_weak (fun E a hG => ⟨E, rfl, gam_keep hG⟩) h
theorem lkT_n (t : Nat) : lkT [] t = .any := rfl
theorem lkT_c (u : Nat) (x : V) (l : List (Nat × V)) (t : Nat) : lkT ((u, x) :: l) t = if t = u then x else lkT l t := rfl
theorem lkB_n (t : Nat) : lkB [] t = none := rfl
theorem lkB_c (u : Nat) (x : Blk) (l : List (Nat × Blk)) (t : Nat) : lkB ((u, x) :: l) t = if t = u then some x else lkB l t := rfl
theorem dV_n : dV [] = [] := rfl
theorem dV_c (x : D) (l : List D) : dV (x :: l) = .d x :: dV l := rfl
theorem getD_enc {α : Type} (f : α → List D) (l : List α) (n : Nat) (d : α) : (l.map f).getD n (f d) = f (l.getD n d) := by simp only [List.getD_eq_getElem?_getD, List.getElem?_map]; cases l[n]? <;> rfl
theorem av_w {n : Int} (h : -9223372036854775808 ≤ n ∧ n ≤ 9223372036854775807) : IntKind.i64.wrap n = n := by
  simp only [IntKind.wrap, IntKind.signed, IntKind.bits]; simp; omega
theorem av_t1 (k : Nat) : ((k : Int) - 1).toNat = k - 1 := by omega
theorem av_tp (k : Nat) : ((k : Int) + 1).toNat = k + 1 := by omega
theorem av_n1 (b : Bool) : ((!b) = false) = (b = true) := by cases b <;> simp
theorem av_n2 (b : Bool) : ((!b) = true) = (b = false) := by cases b <;> simp
theorem av_bt (b : Bool) : (b == true) = b := by cases b <;> rfl
theorem av_bf (b : Bool) : (b == false) = !b := by cases b <;> rfl
theorem av_and (b c : Bool) : pickV b c false = (b && c) := by simp [pickV]
theorem av_or (b c : Bool) : pickV b true c = (b || c) := by cases b <;> simp [pickV]
theorem av_nf (b : Bool) : (b = false → (!b) = true) = True := by cases b <;> simp
theorem av_tt (p : Prop) : (p → p) = True := by simp
end
end Go.Proofs.Ytfmefdeldgmhpaa

namespace Go.Proofs.Ytfmefdeldgmhpaa
set_option linter.unusedVariables false
set_option linter.unusedSimpArgs false
open Go.RowKit
def resOne (tmps : Array Value) : ResultVar → Sem Value
  | .tmp t => pure (tmps.getD t undef)
  | .cell x t => do loadVar t (← asAddr (tmps.getD x undef))
theorem results_eq (fn : Func) (tmps : Array Value) : results fn tmps = (do
  let vs ← fn.results.mapM (resOne tmps)
  pure (if h : vs.size = 1 then vs[0] else .tuple vs)) := by
  unfold results
  congr 1
def inT : Nat → List A → List (Nat × V)
  | _, [] => []
  | k, a :: l => (k, ofA a) :: inT (k + 1) l
/-- a result's value -/
def resV (T : Tab) (st : List (Nat × Blk)) (tm : List (Nat × V)) (K : V → Prop) : ResultVar → Prop
  | .tmp t => K (lkT tm t)
  | .cell t u => match ty T u, lkT tm t with
    | some i, .ptr n off => match lkB st n with
      | some (.cells _ cs) => ldK True i (cs.drop off) (fun v _ => K v)
      | _ => False
    | _, _ => False
def retL (T : Tab) (st : List (Nat × Blk)) (tm : List (Nat × V)) : List ResultVar → (List V → Prop) → Prop
  | [], K => K []
  | r :: rs, K => resV T st tm (fun v => retL T st tm rs (fun vs => K (v :: vs))) r
/-- what is known of a says all that b says -/
def Sub (a b : A) : Prop := ∀ F w v, RA F w a v → RA F w b v
def SubL : List A → List A → Prop
  | [], [] => True
  | a :: asA, b :: bs => Sub a b ∧ SubL asA bs
  | _, _ => False
def RetOk : List A → Ret → Prop
  | [a], .r1 b => Sub a b
  | a :: a' :: asA, .rt bs => SubL (a :: a' :: asA) bs
  | [], .rt bs => SubL [] bs
  | _, _ => False
theorem Sub.refl (a : A) : Sub a a := fun _ _ _ h => h
theorem Sub.of_eq {a b : A} (h : a = b) : Sub a b := by subst h; exact Sub.refl a
theorem Sub.nil (sz : Nat) (d0 : List D) : Sub (.one (.c (.slice none 0 0))) (.one (.sl sz d0 [])) := fun F w v h => by
  simp only [RA, RD] at h
  subst h
  exact RD.nil_sl F w sz d0
theorem Sub.sl {sz : Nat} {d0 d1 : List D} {es es' : List (List D)} (h : es = es') : Sub (.one (.sl sz d0 es)) (.one (.sl sz d1 es')) := fun F w v hv => by
  subst h
  simpa only [RA, RD] using hv
theorem Sub.empty {sz sz' : Nat} {d0 d1 : List D} : Sub (.one (.sl sz d0 [])) (.one (.sl sz' d1 [])) := fun F w v hv => by
  simp only [RA, RD] at hv ⊢
  obtain ⟨a, cap, h1, h2, h3, _⟩ := hv
  exact ⟨a, cap, h1, h2, h3, by simp [RR]⟩
theorem Sub.val {u v : Value} (h : u = v) : Sub (.one (.c u)) (.one (.c v)) := by subst h; exact Sub.refl _
/-- the results say what r says -/
def RetV (vs : List V) (r : Ret) : Prop := match toAs vs with
  | some asA => RetOk asA r
  | none => False
theorem RetV.get {vs : List V} {r : Ret} (h : RetV vs r) : ∃ asA, toAs vs = some asA ∧ RetOk asA r := by
  unfold RetV at h
  split at h
  · rename_i asA ha; exact ⟨asA, ha, h⟩
  · exact h.elim
def retQ (T : Tab) (rs : List ResultVar) (r : Ret) : AQ := fun e s => match e with
  | .normal | .ret => retL T s.st s.tm rs (fun vs => RetV vs r)
  | _ => False
section
variable {P : Program} {B : Base} {T : Tab}
theorem subL_ok {F : Ft} {w : World} : ∀ {asA bs : List A} {us : List Value}, SubL asA bs → RAL F w asA us → RAL F w bs us
  | [], [], us, _, h => h
  | a :: asA, b :: bs, us, h, hu => by
    simp only [RAL] at hu ⊢
    obtain ⟨u, r, rfl, h1, h2⟩ := hu
    exact ⟨u, r, rfl, h.1 F w u h1, subL_ok h.2 h2⟩
  | [], _ :: _, us, h, _ => by simp [SubL] at h
  | _ :: _, [], us, h, _ => by simp [SubL] at h
def rvOk (N : Nat) : ResultVar → Bool
  | .tmp t => decide (t < N)
  | .cell t _ => decide (t < N)
theorem GamT.get {tm : Nat → V} {E : Env} {a : Act} (h : GamT B tm E a) {t : Nat} (ht : t < B.N) : RV E (tm t) (a.tmps.getD t undef) := by
  have := h.tm t
  unfold vOf at this
  rwa [if_pos ht] at this
theorem resV_ok (hT : TabOk P T) {s : St} {K : V → Prop} {r : ResultVar} (hr : rvOk B.N r = true) (h : resV T s.st s.tm K r) : ∃ v, K v ∧ ∀ E a, Gam P B s E a → ∃ u, (resOne a.tmps r).run P E.w = .ok u E.w ∧ RV E v u := by
  cases r with
  | tmp t => exact ⟨_, h, fun E a hG => ⟨_, rfl, hG.2.get (by simpa [rvOk] using hr)⟩⟩
  | cell x t =>
    simp only [resV] at h
    split at h <;> try exact h.elim
    rename_i i n off hi htm
    split at h <;> try exact h.elim
    rename_i t' cs hst
    obtain ⟨v, hK, hv⟩ := ldK_val h
    refine ⟨v, hK, fun E a hG => ?_⟩
    have hr := hG.2.get (t := x) (by simpa [rvOk] using hr)
    rw [htm] at hr
    simp only [RV] at hr
    obtain ⟨b, hb1, hb2⟩ := hr
    obtain ⟨us, g1, g2, g3, g4⟩ := (hG.1.st n _ hst).cells_get (off := off) hb1
    obtain ⟨v', u, k1, k2, k3⟩ := ld_run (ty_ok hT hi) (g1.drop off) (fun u hu => g2 u (List.mem_of_mem_drop hu)) g4 (hv trivial (fun v' _ => v' = v) rfl)
    subst k1
    refine ⟨u, ?_, k3⟩
    simp only [Instr.loadAt, Instr.sureAddr, Sem.run_bind, Sem.run_pure, Result.andThen_ok] at k2
    simp only [resOne, hb2, asAddr, Sem.run_bind, Sem.run_pure, Result.andThen_ok, k2]
theorem retL_ok (hT : TabOk P T) {s : St} : ∀ {rs : List ResultVar} {K : List V → Prop}, (rs.all (rvOk B.N)) = true → retL T s.st s.tm rs K → ∃ vs, K vs ∧ vs.length = rs.length ∧ ∀ E a, Gam P B s E a → ∃ us, (rs.mapM (resOne a.tmps)).run P E.w = .ok us E.w ∧ RVL E vs us
  | [], K, _, h => ⟨[], h, rfl, fun E a hG => ⟨[], rfl, by simp [RVL]⟩⟩
  | r :: rs, K, ho, h => by
    simp only [retL] at h
    simp only [List.all_cons, Bool.and_eq_true] at ho
    obtain ⟨v, h1, h2⟩ := resV_ok (B := B) hT ho.1 h
    obtain ⟨vs, h3, h4, h5⟩ := retL_ok hT ho.2 h1
    refine ⟨v :: vs, h3, by simp [h4], fun E a hG => ?_⟩
    obtain ⟨u, k1, k2⟩ := h2 E a hG
    obtain ⟨us, k3, k4⟩ := h5 E a hG
    refine ⟨u :: us, ?_, by simp only [RVL]; exact ⟨u, us, rfl, k2, k4⟩⟩
    rw [List.mapM_cons, Sem.run_bind, k1, Result.andThen_ok, Sem.run_bind, k3]
    rfl
theorem results_run {fn : Func} {a : Act} {E : Env} {us : List Value} (h : (fn.results.toList.mapM (resOne a.tmps)).run P E.w = .ok us E.w) :
    (results fn a.tmps).run P E.w = .ok (if h : us.toArray.size = 1 then us.toArray[0] else .tuple us.toArray) E.w := by
  rw [results_eq, Array.mapM_eq_mapM_toList, Sem.run_bind]
  have : ((Functor.map List.toArray (fn.results.toList.mapM (resOne a.tmps))) : Sem (Array Value)).run P E.w = .ok us.toArray E.w := by
    rw [map_eq_pure_bind, Sem.run_bind, h]; rfl
  rw [this]
  rfl
theorem inT_ok {E : Env} : ∀ {asA : List A} {us : List Value} {k : Nat}, RAL E.F E.w asA us → ∀ t, (t < k → lkT (inT k asA) t = .any) ∧ ∀ j, t = k + j → RV E (lkT (inT k asA) t) (us.getD j undef)
  | [], us, k, h, t => ⟨fun _ => rfl, fun _ _ => by simp [inT, lkT, RV]⟩
  | a :: asA, us, k, h, t => by
    simp only [RAL] at h
    obtain ⟨u, r, rfl, h1, h2⟩ := h
    obtain ⟨i1, i2⟩ := inT_ok (k := k + 1) h2 t
    refine ⟨fun ht => ?_, fun j hj => ?_⟩
    · simp only [inT, lkT]
      rw [if_neg (by omega)]
      exact i1 (by omega)
    · simp only [inT, lkT]
      cases j with
      | zero => rw [if_pos (by omega)]; exact ofA_ok h1
      | succ j => rw [if_neg (by omega)]; simpa using i2 j (by omega)
theorem RAL.len {F : Ft} {w : World} : ∀ {asA : List A} {us : List Value}, RAL F w asA us → us.length = asA.length
  | [], us, h => by simp only [RAL] at h; simp [h]
  | a :: asA, us, h => by
    simp only [RAL] at h
    obtain ⟨u, r, rfl, _, h2⟩ := h
    simp [RAL.len h2]
/-- a loop's deferred calls are taken -/
theorem GamS.take {σ : Nat → Option Blk} {fr : Nat → Prop} {E : Env} {D : Nat} (h : GamS P B σ fr E) (hD : E.dp D) :
    ∃ E', E' = ⟨E.η, E.F, E.w.putObj D (.deferred none), fun X => E.dp X ∧ X ≠ D⟩ ∧ GamS P B σ fr E' ∧ Ext E E' := by
  obtain ⟨d1, d2, d3, d4⟩ := h.dp D hD
  have other : ∀ i, i ≠ D → (E.w.putObj D (.deferred none)).heap[i]? = E.w.heap[i]? := fun i hi => World.putObj_heap_other hi
  have hsz : (E.w.putObj D (.deferred none)).heap.size = E.w.heap.size := by simp [World.putObj]
  have hext : Ext E ⟨E.η, E.F, E.w.putObj D (.deferred none), fun X => E.dp X ∧ X ≠ D⟩ := ⟨fun _ _ h => h, Ft.le_refl _, .of_blocks (fun i o hi => other i (fun e => by subst e; exact d4 o hi)) (fun i hi => other i (fun e => by subst e; exact d3 hi))⟩
  refine ⟨_, rfl, ⟨h.os, h.tape, h.output, by show _ ≤ (E.w.putObj D (.deferred none)).heap.size; rw [hsz]; exact h.size, fun i hi hS => ?_, h.F0, fun i o hi => ?_, fun i hi => ?_, fun m y hy => ?_, h.dist, h.fresh, fun X hX => ?_⟩, hext⟩
  · exact (other i (fun e => by subst e; rcases d2 with h6 | h6; omega; exact hS h6)).trans (h.old i hi hS)
  · show _ ∧ i < (E.w.putObj D (.deferred none)).heap.size
    rw [hsz]; exact h.Fc i o hi
  · show _ ∧ i < (E.w.putObj D (.deferred none)).heap.size
    rw [hsz]; exact h.Fm i hi
  · exact (h.st m y hy).keep (fun _ h => h) hext (Nat.le_of_eq hsz.symm) (fun v' b' hv' hb' _ => other b' (fun e => by subst e; exact (h.st m y hy).nodp hv' hb' d1)) (fun v' b' p' _ _ hok' => ⟨hok'.1, by show b' < (E.w.putObj D (.deferred none)).heap.size; rw [hsz]; exact hok'.2.1, hok'.2.2.1, hok'.2.2.2⟩)
  · obtain ⟨e1, e2⟩ := h.dp X hX.1
    exact ⟨(other X hX.2).trans e1, e2⟩
/-- a frame's marks, at its end -/
theorem leaves_of {fn : Func} {R : Ending → World → Prop} {σ : Nat → Option Blk} {fr : Nat → Prop} : ∀ (ds : List Nat) (E : Env), GamS P B σ fr E → ds.Nodup → (∀ D ∈ ds, E.dp D) → ∀ tmps,
    ∃ E', GamS P B σ fr E' ∧ Ext E E' ∧ (∀ X, E.dp X → X ∉ ds → E'.dp X) ∧ ∀ v, (results fn tmps).run P E'.w = .ok v E'.w → R (.returned v) E'.w → LeavesInM Fence.wide 0 P fn tmps R (ds.map mark) .returning E.w
  | [], E, h, _, _, tmps => ⟨E, h, Ext.refl E, fun _ h _ => h, fun v h1 h2 => ⟨v, h1, h2⟩⟩
  | D :: ds, E, h, hn, hd, tmps => by
    obtain ⟨hn1, hn2⟩ := List.nodup_cons.1 hn
    obtain ⟨E1, e1, h1, x1⟩ := h.take (hd D (by simp))
    have hd1 : ∀ X ∈ ds, E1.dp X := fun X hX => by subst e1; exact ⟨hd X (by simp [hX]), fun e => hn1 (by rw [← e]; exact hX)⟩
    obtain ⟨E2, h2, x2, k2, r2⟩ := leaves_of (fn := fn) (R := R) ds E1 h1 hn2 hd1 tmps
    refine ⟨E2, h2, x1.trans x2, fun X hX hXn => k2 X (by subst e1; exact ⟨hX, fun e => hXn (by simp [e])⟩) (fun e => hXn (by simp [e])), fun v g1 g2 => ?_⟩
    refine ⟨by simp, .inl ⟨D, E1.w, rfl, ?_, r2 v g1 g2⟩⟩
    subst e1
    exact run_takeDeferred (h.dp D (hd D (by simp))).1
theorem gam_in {N : Nat} {asA : List A} {F : Ft} {w : World} {us : List Value} (hF : F.lt w) (h : RAL F w asA us) (hN : asA.length ≤ N) : Gam P ⟨w, fun _ => False, F, N, fun _ => undef, none, fun _ => False⟩ ⟨inT 0 asA, [], 0⟩ ⟨fun _ => none, F, w, fun _ => False⟩ ⟨us.toArray ++ Array.replicate (N - us.toArray.size) undef, []⟩ := by
  have hl := h.len
  refine ⟨⟨rfl, rfl, rfl, Nat.le_refl _, fun _ _ _ => rfl, Ft.le_refl _, fun b o hb => ⟨.inl hb, hF.1 b o hb⟩, fun b hb => ⟨.inl hb, hF.2 b hb⟩, fun n x hx => (by cases hx), (fun n m x y b v u _ hx => by cases hx), fun _ _ => rfl, fun D hD => hD.elim⟩, fun t => ?_, ⟨[], rfl, List.nodup_nil, fun D hD => (by cases hD), fun D hD => hD.elim⟩, by simp; omega⟩
  have := (inT_ok (E := ⟨fun _ => none, F, w, fun _ => False⟩) (k := 0) h t).2 t (by omega)
  have e : (us.toArray ++ Array.replicate (N - us.toArray.size) undef).getD t undef = us.getD t undef := by
    simp only [Array.getD_eq_getD_getElem?, List.getD_eq_getElem?_getD, Array.getElem?_append, List.size_toArray]
    by_cases ht : t < us.length
    · rw [if_pos ht]; simp
    · rw [if_neg ht, List.getElem?_eq_none (by omega), Array.getElem?_replicate]
      split <;> rfl
  have ev : vOf ⟨w, fun _ => False, F, N, fun _ => undef, none, fun _ => False⟩ ⟨us.toArray ++ Array.replicate (N - us.toArray.size) undef, []⟩ t = us.getD t undef := by
    unfold vOf
    split
    · exact e
    · rename_i hN'
      have : us.getD t undef = undef := by simp [List.getD_eq_getElem?_getD, List.getElem?_eq_none (show us.length ≤ t by have : ¬ t < N := hN'; omega)]
      rw [this]
  rw [ev]
  exact this
/-- a function's contract out of its walk -/
theorem spec_of {f : FuncId} {fn : Func} {c : Code} {asA : List A} {r : Ret} {rs : List ResultVar} {N : Nat} (hT : TabOk P T) (hf : P.funcs[f]? = some fn) (hN : fn.ntmps = N) (hb : fn.body = some c) (hr : fn.results = rs.toArray) (hn : asA.length ≤ fn.ntmps)
    (h : ∀ (w : World) (F : Ft), AW P ⟨w, fun _ => False, F, N, fun _ => undef, none, fun _ => False⟩ c (retQ T rs r) ⟨⟩ ⟨inT 0 asA, [], 0⟩) (hrs : (rs.all (rvOk fn.ntmps)) = true := by kernel_rfl) : Spec P f asA r := by
  subst hN
  intro F w us hF hus
  refine callsIn_wide.1 (callsIn_of_wp_marks (F := Fence.wide) (n := 0) hf hb trivial (Code.wpIn_mono ?_ (h w F ⟨fun _ => none, F, w, fun _ => False⟩ _ (gam_in hF hus hn))) rfl)
  rintro e a' w' ⟨E0, s', rfl, hG0, hq⟩
  have key : retL T s'.st s'.tm rs (fun vs => RetV vs r) → LeavesInM Fence.wide 0 P fn a'.tmps (fun e w' => ∃ v F', e = .returned v ∧ Below w.heap.size w w' ∧ FtNew F F' w w' ∧ RRet F' w' r v) a'.defers .returning E0.w := fun hrr => by
    obtain ⟨ds, hds, hnd, hdp, _⟩ := hG0.2.defers
    obtain ⟨E', hS, hX, _, hL⟩ := leaves_of (fn := fn) (R := fun e w' => ∃ v F', e = .returned v ∧ Below w.heap.size w w' ∧ FtNew F F' w w' ∧ RRet F' w' r v) ds E0 hG0.1 hnd (fun D hD => (hdp D hD).1) a'.tmps
    have hG : Gam P ⟨w, fun _ => False, F, fn.ntmps, fun _ => undef, none, fun _ => False⟩ s' E' ⟨a'.tmps, []⟩ := ⟨hS, fun t => RV.mono hX _ _ (hG0.2.tm t), ⟨[], rfl, List.nodup_nil, fun D hD => (by cases hD), fun D hD => hD.elim⟩, hG0.2.size⟩
    obtain ⟨vs, h12, h3, h4⟩ := retL_ok (B := ⟨w, fun _ => False, F, fn.ntmps, fun _ => undef, none, fun _ => False⟩) hT hrs hrr
    obtain ⟨asA', h1, h2⟩ := h12.get
    obtain ⟨us', h5, h6⟩ := h4 E' ⟨a'.tmps, []⟩ hG
    have h5 : (fn.results.toList.mapM (resOne a'.tmps)).run P E'.w = .ok us' E'.w := by rw [hr]; exact h5
    have h7 := toAs_ok h1 h6
    rw [hds]
    refine hL _ (results_run (a := ⟨a'.tmps, []⟩) h5) ?_
    refine ⟨_, E'.F, rfl, ⟨hG.1.os, hG.1.tape, hG.1.output, hG.1.size, fun b hb => hG.1.old b hb (fun h => h)⟩, ⟨hG.1.F0, fun b o hb => ?_, fun b hb => ?_⟩, ?_⟩
    · have := hG.1.Fc b o hb
      rcases this.1 with h8 | h8 | h8
      · exact .inl h8
      · exact .inr ⟨h8, this.2⟩
      · exact h8.elim
    · have := hG.1.Fm b hb
      rcases this.1 with h8 | h8 | h8
      · exact .inl h8
      · exact .inr ⟨h8, this.2⟩
      · exact h8.elim
    · have hl := h7.len
      unfold RetOk at h2
      split at h2
      · rename_i a b
        simp only [RAL] at h7
        obtain ⟨u, r', rfl, h8, rfl⟩ := h7
        exact h2 _ _ _ h8
      · rename_i a a2 as2 bs
        have hne : ¬ us'.toArray.size = 1 := by simp at hl ⊢; omega
        rw [dif_neg hne]
        exact ⟨us', rfl, subL_ok h2 h7⟩
      · have hl0 : us'.length = 0 := by simpa using hl
        have hne : ¬ us'.toArray.size = 1 := by simp only [List.size_toArray]; omega
        rw [dif_neg hne]
        exact ⟨us', rfl, subL_ok h2 h7⟩
      · exact h2.elim
  cases e <;> simp only [retQ] at hq <;> first | exact hq.elim | exact key hq
end
end Go.Proofs.Ytfmefdeldgmhpaa

namespace Go.Proofs.Ytfmefdeldgmhpaa
set_option linter.unusedVariables false
set_option linter.unusedSimpArgs false
open Go.RowKit
section
variable {P : Program} {B : Base} {T : Tab} {ops : Array Oper}
theorem GamS.congr {σ σ' : Nat → Option Blk} {fr fr' : Nat → Prop} {E : Env} (h : GamS P B σ fr E) (hσ : ∀ n, σ' n = σ n) (hf : ∀ n, fr' n → fr n) : GamS P B σ' fr' E := by
  have : σ' = σ := funext hσ
  subst this
  exact ⟨h.os, h.tape, h.output, h.size, h.old, h.F0, h.Fc, h.Fm, h.st, h.dist, fun n hn => h.fresh n (hf n hn), h.dp⟩
theorem GamS.none_of_fresh {σ : Nat → Option Blk} {fr : Nat → Prop} {E : Env} (h : GamS P B σ fr E) {n : Nat} (hn : fr n) : σ n = none := by
  cases hq : σ n with
  | none => rfl
  | some y =>
    have := h.st _ _ hq
    have hno := h.fresh n hn
    cases y with
    | cells t cs => obtain ⟨b, us, e1, _⟩ := this; rw [hno] at e1; cases e1
    | tok e sz len => obtain ⟨v, us, e1, _⟩ := this; rw [hno] at e1; cases e1
    | row e sz d0 es => obtain ⟨v, us, e1, _⟩ := this; rw [hno] at e1; cases e1
    | map q k zv z0 es => obtain ⟨b, ms, clock, e1, _⟩ := this; rw [hno] at e1; cases e1
    | loop L st pe => obtain ⟨b, rec, e1, _⟩ := this; rw [hno] at e1; cases e1
theorem GamT.putF {tm tm' : Nat → V} {E : Env} {a : Act} {d : Option Tmp} {v : V} {u : Value} (h : GamT B tm E a) (hu : ∀ t, d = some t → RV E v u ∧ t < B.N) (ht : ∀ t, tm' t = if d = some t then v else tm t) : GamT B tm' E (a.put d u) := by
  cases d with
  | none => exact ⟨fun t => by rw [ht, if_neg (by simp)]; exact h.tm t, h.defers, h.size⟩
  | some t =>
    obtain ⟨hu, hlt⟩ := hu t rfl
    refine ⟨fun k => ?_, h.defers, by simp [Act.put, h.size]⟩
    rw [ht]
    rw [vOf_put h.size (fun t' e => by injection e with e; subst e; exact hlt)]
    by_cases hk : some t = some k
    · rw [if_pos hk, if_pos hk]
      exact hu
    · rw [if_neg hk, if_neg hk]
      exact h.tm k
/-- one operation of the head: whatever else has run already -/
def HF (P : Program) (B : Base) (ops : Array Oper) (o : Oper) (tmi : Nat → V) (st0 : Nat → Option Blk) (nm : Nat) (v : V) (x : Option Blk) : Prop :=
  ∀ (tm : Nat → V) (σ : Nat → Option Blk) (fr : Nat → Prop) (E : Env) (a : Act), GamS P B σ fr E → GamT B tm E a → fr nm → (∀ n b, st0 n = some b → σ n = some b) → (∀ t ∈ o.looksAt ops, tm t = tmi t) →
    (Region.wanted o (yielded ops a.tmps) = true → Upon P (fun u w' => ∃ E', E'.w = w' ∧ GamS P B (fun n => if n = nm then x else σ n) (fun n => fr n ∧ (x.isSome = true → n ≠ nm)) E' ∧ Ext E E' ∧ E'.dp = E.dp ∧ RV E' v u) ((execOp a.eval o).run P E.w)) ∧
    (Region.wanted o (yielded ops a.tmps) = false → x = none ∧ RV E v undef)
theorem ev_congr {tm tm' : Nat → V} {o : Oper} (h : ∀ t ∈ o.looksAt ops, tm t = tm' t) {y : Operand} (hy : y ∈ o.op.operands) : ev tm y = ev tm' y := by
  cases y <;> simp only [ev]
  rename_i t
  refine h t ?_
  unfold Oper.looksAt
  refine List.mem_append.2 (.inl (List.mem_filterMap.2 ⟨.tmp t, by simpa using hy, rfl⟩))
theorem hf_next {o : Oper} {tmi : Nat → V} {st0 : Nat → Option Blk} {nm : Nat} {v : V} {x : Option Blk} (hc : (o.op.operands.toList.all (constOk B.N)) = true) (hg : o.guard = none) (h : HD P o (ev tmi) st0 nm v x) : HF P B ops o tmi st0 nm v x := by
  intro tm σ fr E a hS hT hfr hst hag
  have hw : Region.wanted o (yielded ops a.tmps) = true := by simp [Region.wanted, hg]
  refine ⟨fun _ => ?_, fun h' => by rw [hw] at h'; cases h'⟩
  refine (h B E a.eval (fun y hy => by rw [← ev_congr hag hy]; exact ev_ok hT y (List.all_eq_true.1 hc y (by simpa using hy))) (fun f => rfl) (fun n b hb => hS.st n b (hst n b hb)) hS.lt hS.size (hS.fresh _ hfr)).mono ?_
  rintro u w' ⟨E', hw', hs, hv, hn⟩
  have hσn := hS.none_of_fresh hfr
  exact ⟨E', hw', hS.head hs hn hfr (fun n => by
    by_cases hnn : n = nm
    · rw [if_pos hnn, if_pos hnn]; cases x with
      | none => exact hσn.symm
      | some y => rfl
    · rw [if_neg hnn, if_neg hnn]) hσn (fun n hn' => hn'), hs.ext hS.lt (hS.fresh _ hfr), hs.dp, hv⟩
theorem gOf_okF {o : Oper} {tm : Nat → V} {g : Nat × Bool} {b : Bool} {E : Env} {a : Act} (hops : ∀ o ∈ ops.toList, opOk B.N o = true) (h : gOf ops tm g = some b) (hT : GamT B tm E a) (hg : o.guard = some g) : Region.wanted o (yielded ops a.tmps) = b := by
  unfold gOf at h
  split at h
  · rename_i d hd
    have hdo : ∃ og, ops[g.1]? = some og ∧ og.dst = some d := by
      cases ho : ops[g.1]? with
      | none => rw [ho] at hd; cases hd
      | some og => rw [ho] at hd; exact ⟨og, rfl, by simpa using hd⟩
    obtain ⟨og, ho, hdst⟩ := hdo
    have hv := hT.tm d
    rw [vOf_dst hops ⟨og, ho, hdst⟩] at hv
    have hy : yielded ops a.tmps g.1 = match a.tmps.getD d undef with | .bool b => some b | _ => none := by
      simp only [yielded, ho, Option.bind_some, hdst]
      cases hq : a.tmps[d]? with
      | none => simp [Array.getD_eq_getD_getElem?, hq, undef]
      | some q => simp only [Array.getD_eq_getD_getElem?, hq, Option.getD_some]; cases q <;> rfl
    have hw : Region.wanted o (yielded ops a.tmps) = (yielded ops a.tmps g.1 == some g.2) := by
      unfold Region.wanted; rw [hg]
    rw [hw, hy]
    split at h
    · rename_i b' hb'
      cases h
      rw [hb'] at hv
      simp only [RV, RD] at hv
      rw [hv]
      simp
    · rename_i h' b' hb'
      cases h
      rw [hb'] at hv
      simp only [RV, RD] at hv
      cases h' with
      | true => rw [hv.1 rfl]; simp
      | false => rw [hv.2 rfl]; simp [undef]
    · cases h
  · cases h
theorem hf_guard {o : Oper} {tmi : Nat → V} {st0 : Nat → Option Blk} {nm : Nat} {g : Nat × Bool} {b : Bool} {v v' : V} {x : Option Blk} (hops : ∀ o ∈ ops.toList, opOk B.N o = true) (hc : (o.op.operands.toList.all (constOk B.N)) = true) (hg : o.guard = some g) (hgo : gOf ops tmi g = some b)
    (h : b = true → HD P o (ev tmi) st0 nm v x) (hv' : ∀ E E' u, E'.η = E.η ∨ True → RV E v u → E'.F = E.F → E'.w = E.w → E'.dp = E.dp → (x = none → E'.η = E.η) → RV E' v' u) : HF P B ops o tmi st0 nm (.cond b v') none := by
  intro tm σ fr E a hS hT hfr hst hag
  have hgo' : gOf ops tm g = some b := by
    rw [← hgo]
    unfold gOf
    cases hd : (ops[g.1]?).bind (·.dst) with
    | none => rfl
    | some d =>
      have : d ∈ o.looksAt ops := by
        unfold Oper.looksAt
        rw [hg]
        refine List.mem_append.2 (.inr ?_)
        simp only [hd]
        simp
      simp only [hag d this]
  have hw := gOf_okF (o := o) hops hgo' hT hg
  refine ⟨fun hw1 => ?_, fun hw1 => ?_⟩
  · rw [hw] at hw1
    refine (h hw1 B E a.eval (fun y hy => by rw [← ev_congr hag hy]; exact ev_ok hT y (List.all_eq_true.1 hc y (by simpa using hy))) (fun f => rfl) (fun n b hb => hS.st n b (hst n b hb)) hS.lt hS.size (hS.fresh _ hfr)).mono ?_
    rintro u w' ⟨E', hw', hs, hv, hn⟩
    let E2 : Env := ⟨E.η, E'.F, E'.w, E.dp⟩
    have hs2 : HStep E E2 nm := ⟨hs.by_, fun _ _ => rfl, hs.F, rfl⟩
    have hno := hS.fresh nm hfr
    have hσn := hS.none_of_fresh hfr
    refine ⟨E2, hw', hS.head (x := none) hs2 rfl hfr (fun n => by
      by_cases hnn : n = nm
      · rw [if_pos hnn, if_pos hnn]; exact hσn.symm
      · rw [if_neg hnn, if_neg hnn]) hσn (fun n hn' => hn'), hs2.ext hS.lt hno, rfl, ?_⟩
    simp only [RV]
    refine ⟨fun _ => hv' E' E2 u (.inr trivial) hv (by rfl) (by rfl) hs.dp.symm (fun hx => ?_), fun hb => by rw [hw1] at hb; cases hb⟩
    subst hx
    simp only [NewB] at hn
    funext n
    by_cases hnn : n = nm
    · subst hnn; exact hn.symm
    · exact (hs.η n hnn).symm
  · rw [hw] at hw1
    refine ⟨rfl, ?_⟩
    simp only [RV]
    exact ⟨fun hb => (by rw [hw1] at hb; cases hb), fun _ => trivial⟩
/-- one operation of the head, evaluated -/
def hopH (P : Program) (T : Tab) (ops : Array Oper) (o : Oper) (tm : List (Nat × V)) (st0 : List (Nat × Blk)) (nm : Nat) (K : V → Option Blk → Prop) : Prop :=
  match o.guard with
  | none => hop P T True o.op (ev (lkT tm)) (lkB st0) nm K
  | some g => match gOf ops (lkT tm) g with
    | some b => gop P T b o.op (ev (lkT tm)) (lkB st0) nm (fun v x => match x, v with
      | none, v => K (.cond b v) none
      | some _, .ow _ sz d0 es => K (.cond b (.d (.sl sz d0 es))) none
      | _, _ => False)
    | none => False
theorem hopH_ok (hT : TabOk P T) {o : Oper} {tm : List (Nat × V)} {st0 : List (Nat × Blk)} {nm : Nat} {K : V → Option Blk → Prop} (hops : ∀ o ∈ ops.toList, opOk B.N o = true) (hc : (o.op.operands.toList.all (constOk B.N)) = true) (h : hopH P T ops o tm st0 nm K) : ∃ v x, K v x ∧ HF P B ops o (lkT tm) (lkB st0) nm v x := by
  unfold hopH at h
  split at h
  · rename_i hg
    obtain ⟨v, x, hK, hd⟩ := hop_ok hT h
    exact ⟨v, x, hK, hf_next hc hg (hd trivial)⟩
  · rename_i g hg
    split at h <;> try exact h.elim
    rename_i b hgo
    obtain ⟨v, x, hK, hd⟩ := gop_ok hT h
    split at hK
    · exact ⟨_, none, hK, hf_guard hops hc hg hgo hd (fun E E' u _ hv hF hw hdp hη => by
        have : E' = E := by
          cases E; cases E'
          have hη := hη rfl
          simp only at hF hw hη hdp
          rw [hF, hw, hη, hdp]
        rw [this]; exact hv)⟩
    · refine ⟨_, none, hK, hf_guard hops hc hg hgo hd (fun E E' u _ hv hF hw hdp hη => ?_)⟩
      simp only [RV] at hv ⊢
      rw [hF, hw]
      exact hv.2
    · exact hK.elim
def addN (n : Nat) (x : Option Blk) (l : List (Nat × Blk)) : List (Nat × Blk) := match x with
  | none => l
  | some b => (n, b) :: l
/-- the head -/
def hwp (P : Program) (T : Tab) (ops : Array Oper) (st0 : List (Nat × Blk)) (nx : Nat) : List (Nat × Oper) → List (Nat × V) → List (Nat × Blk) → (List (Nat × V) → List (Nat × Blk) → Prop) → Prop
  | [], tm, nb, K => K tm nb
  | (i, o) :: l, tm, nb, K => hopH P T ops o tm st0 (nx + i) (fun v x => hwp P T ops st0 nx l (put o.dst v tm) (addN (nx + i) x nb) K)
def HRun (P : Program) (B : Base) (ops : Array Oper) (st0 : List (Nat × Blk)) (nx : Nat) (tmF : List (Nat × V)) (nbF : List (Nat × Blk)) : List (Nat × Oper) → List (Nat × V) → List (Nat × Blk) → Prop
  | [], tm, nb => tmF = tm ∧ nbF = nb
  | (i, o) :: l, tm, nb => ∃ v x, HF P B ops o (lkT tm) (lkB st0) (nx + i) v x ∧ HRun P B ops st0 nx tmF nbF l (put o.dst v tm) (addN (nx + i) x nb)
theorem hwp_ok (hT : TabOk P T) {st0 : List (Nat × Blk)} {nx : Nat} {K : List (Nat × V) → List (Nat × Blk) → Prop} (hops : ∀ o ∈ ops.toList, opOk B.N o = true) : ∀ (l : List (Nat × Oper)) (tm : List (Nat × V)) (nb : List (Nat × Blk)), (l.all fun p => p.2.op.operands.toList.all (constOk B.N)) = true → hwp P T ops st0 nx l tm nb K → ∃ tmF nbF, K tmF nbF ∧ HRun P B ops st0 nx tmF nbF l tm nb
  | [], tm, nb, _, h => ⟨tm, nb, h, rfl, rfl⟩
  | (i, o) :: l, tm, nb, hc, h => by
    simp only [List.all_cons, Bool.and_eq_true] at hc
    obtain ⟨v, x, h1, h2⟩ := hopH_ok (B := B) hT hops hc.1 h
    obtain ⟨tmF, nbF, h3, h4⟩ := hwp_ok hT hops l _ _ hc.2 h1
    exact ⟨tmF, nbF, h3, v, x, h2, h4⟩
theorem lkT_put {d : Option Tmp} {v : V} {l : List (Nat × V)} (t : Nat) : lkT (put d v l) t = if d = some t then v else lkT l t := by
  cases d with
  | none => simp [put]
  | some k =>
    simp only [put, lkT_setT]
    by_cases h : t = k
    · subst h; simp
    · rw [if_neg h, if_neg (fun e => h (by injection e with e; exact e.symm))]
theorem lkB_addN {m : Nat} {x : Option Blk} {l : List (Nat × Blk)} (n : Nat) : lkB (addN m x l) n = if n = m ∧ x.isSome = true then x else lkB l n := by
  cases x with
  | none => simp [addN]
  | some b =>
    simp only [addN, lkB]
    by_cases h : n = m <;> simp [h]
def incr : List (Nat × Oper) → Bool
  | [] => true
  | (i, o) :: l => (l.all fun p => decide (i < p.1) && (match o.dst with | some d => p.2.dst != some d | none => true)) && incr l
theorem hrun_facts {st0 : List (Nat × Blk)} {nx : Nat} {tmF : List (Nat × V)} {nbF : List (Nat × Blk)} : ∀ (l : List (Nat × Oper)) (tm : List (Nat × V)) (nb : List (Nat × Blk)), incr l = true → HRun P B ops st0 nx tmF nbF l tm nb →
    (∀ t, (∀ p ∈ l, p.2.dst ≠ some t) → lkT tmF t = lkT tm t) ∧ (∀ n, (∀ p ∈ l, n ≠ nx + p.1) → lkB nbF n = lkB nb n) ∧
    ∀ p ∈ l, ∃ tmi v x, HF P B ops p.2 tmi (lkB st0) (nx + p.1) v x ∧ (∀ d, p.2.dst = some d → lkT tmF d = v) ∧ (lkB nb (nx + p.1) = none → lkB nbF (nx + p.1) = x) ∧
      (∀ t, ∀ q ∈ l, q.1 < p.1 → q.2.dst = some t → tmi t = lkT tmF t) ∧ (∀ t, (∀ q ∈ l, q.1 < p.1 → q.2.dst ≠ some t) → tmi t = lkT tm t)
  | [], tm, nb, _, h => by
    obtain ⟨rfl, rfl⟩ := h
    exact ⟨fun _ _ => rfl, fun _ _ => rfl, fun p hp => by cases hp⟩
  | (i, o) :: l, tm, nb, hi, h => by
    simp only [incr, Bool.and_eq_true] at hi
    obtain ⟨v, x, h1, h2⟩ := h
    obtain ⟨f1, f2, f3⟩ := hrun_facts l _ _ hi.2 h2
    have hlt : ∀ p ∈ l, i < p.1 := fun p hp => by have := List.all_eq_true.1 hi.1 p hp; simp at this; exact this.1
    have hne : ∀ p ∈ l, ∀ d, o.dst = some d → p.2.dst ≠ some d := fun p hp d hd => by
      have := List.all_eq_true.1 hi.1 p hp
      rw [hd] at this
      simp at this
      exact this.2
    refine ⟨fun t ht => ?_, fun n hn => ?_, fun p hp => ?_⟩
    · rw [f1 t (fun p hp => ht p (by simp [hp])), lkT_put, if_neg (ht (i, o) (by simp))]
    · rw [f2 n (fun p hp => hn p (by simp [hp])), lkB_addN, if_neg (fun e => hn (i, o) (by simp) e.1)]
    · rcases List.mem_cons.1 hp with rfl | hp'
      · refine ⟨lkT tm, v, x, h1, fun d hd => ?_, fun hnb => ?_, fun t q hq hlt' => ?_, fun t _ => rfl⟩
        · rw [f1 d (fun p hp => hne p hp d hd), lkT_put, if_pos hd]
        · rw [f2 (nx + i) (fun p hp e => by have := hlt p hp; omega), lkB_addN]
          cases x with
          | none => simp [hnb]
          | some b => simp
        · rcases List.mem_cons.1 hq with rfl | hq
          · exact (Nat.lt_irrefl _ hlt').elim
          · have := hlt q hq; omega
      · obtain ⟨tmi, v', x', g1, g2, g3, g4, g5⟩ := f3 p hp'
        have hip := hlt p hp'
        refine ⟨tmi, v', x', g1, g2, fun hnb => g3 ?_, fun t q hq hql hqt => ?_, fun t ht => ?_⟩
        · rw [lkB_addN, if_neg (by rintro ⟨e, _⟩; omega)]; exact hnb
        · rcases List.mem_cons.1 hq with rfl | hq
          · have hqt' : o.dst = some t := hqt
            rw [g5 t (fun r hr _ => hne r hr t hqt'), f1 t (fun r hr => hne r hr t hqt')]
          · exact g4 t q hq hql hqt
        · rw [g5 t (fun q hq hql => ht q (by simp [hq]) hql), lkT_put, if_neg (ht (i, o) (by simp) hip)]
end
end Go.Proofs.Ytfmefdeldgmhpaa
