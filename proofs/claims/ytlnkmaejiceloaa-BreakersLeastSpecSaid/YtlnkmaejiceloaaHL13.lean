import Derived.Test.YtlnkmaejiceloaaHL8
import Derived.StringKeys
namespace Go.Proofs.Ytlnkmaejiceloaa
set_option linter.unusedVariables false
set_option linter.unusedSimpArgs false
open Go.RowKit
def frz1 (n : Nat) (v : V) : V → V
  | .mo m => if m = n then v else .mo m
  | x => x
def frz2 (n : Nat) (v : V) : V → V
  | .agg cs => .agg (cs.map (frz1 n v))
  | x => frz1 n v x
def frzS (n : Nat) (v : V) : List (Nat × V) → List (Nat × V)
  | [] => []
  | (t, x) :: l => (t, frz2 n v x) :: frzS n v l
def frzK (n : Nat) (v : V) : Blk → Blk
  | .cells t cs => .cells t (cs.map (frz1 n v))
  | x => x
def frzM (n : Nat) (v : V) : List (Nat × Blk) → List (Nat × Blk)
  | [] => []
  | (t, x) :: l => (t, frzK n v x) :: frzM n v l
section
variable {P : Program} {B : Base} {s : St} {E : Env} {n : Nat} {v : V}
theorem frz1_ok (h : ∀ u, RV E (.mo n) u → RV E v u) {x : V} {u : Value} (hx : RV E x u) : RV E (frz1 n v x) u := by
  cases x <;> try exact hx
  rename_i m
  unfold frz1
  by_cases hm : m = n
  · subst hm; simp only [if_true]; exact h u hx
  · simp only [hm, if_false]; exact hx
theorem frz1s_ok (h : ∀ u, RV E (.mo n) u → RV E v u) : ∀ {xs : List V} {us : List Value}, RVL E xs us → RVL E (xs.map (frz1 n v)) us
  | [], us, k => k
  | x :: xs, us, k => by
    simp only [List.map_cons, RVL] at k ⊢
    obtain ⟨u, r, h1, h2, h3⟩ := k
    exact ⟨u, r, h1, frz1_ok h h2, frz1s_ok h h3⟩
theorem frz2_ok (h : ∀ u, RV E (.mo n) u → RV E v u) {x : V} {u : Value} (hx : RV E x u) : RV E (frz2 n v x) u := by
  cases x <;> try exact frz1_ok h hx
  simp only [frz2, RV] at hx ⊢
  obtain ⟨us, h1, h2, h3⟩ := hx
  exact ⟨us, h1, frz1s_ok h h2, h3⟩
theorem lkT_frzS (t : Nat) : ∀ l : List (Nat × V), lkT (frzS n v l) t = frz2 n v (lkT l t) ∨ (lkT l t = .any ∧ lkT (frzS n v l) t = .any)
  | [] => .inr ⟨rfl, rfl⟩
  | (u, x) :: l => by
    simp only [frzS, lkT]
    by_cases h : t = u
    · rw [if_pos h, if_pos h]; exact .inl rfl
    · rw [if_neg h, if_neg h]; exact lkT_frzS t l
theorem lkB_frzM (t : Nat) : ∀ l : List (Nat × Blk), lkB (frzM n v l) t = (lkB l t).map (frzK n v)
  | [] => rfl
  | (u, x) :: l => by
    simp only [frzM, lkB]
    by_cases h : t = u
    · rw [if_pos h, if_pos h]; rfl
    · rw [if_neg h, if_neg h]; exact lkB_frzM t l
theorem gam_frzD {el sz : Nat} {d0V : List V} {d0 : List D} {esV : List (List V)} {es : List (List D)} (hn : lkB s.st n = some (.row el sz d0V esV)) (hes : esV = es.map dV) {a : Act} (hG : Gam P B s E a) :
    ∃ E', E'.w = E.w ∧ Gam P B ⟨frzS n (.ow n sz d0 es) s.tm, setB n (.tok el sz es.length) (frzM n (.ow n sz d0 es) s.st), s.nx⟩ E' a := by
  subst hes
  obtain ⟨v, us, h1, h2, h3, h4, h5, h6, h7⟩ := hG.1.st n _ hn
  rw [List.length_map] at h2 h6
  rw [flat_dV] at h3
  let F' : Ft := ⟨fun b o => E.F.c b o ∨ (hb v = some b ∧ o < es.length * sz), E.F.m⟩
  have hle : E.F.le F' := ⟨fun _ _ h => .inl h, fun _ h => h⟩
  let E' : Env := ⟨E.η, F', E.w, E.dp⟩
  have hext : Ext E E' := ⟨fun _ _ h => h, hle, Kp.refl _ _⟩
  have hlen : us.length = es.length * sz := h2.1
  have hrow : RD F' E.w (.sl sz d0 es) v := by
    obtain ⟨a', cap, rfl, hcap⟩ := own_form h2
    simp only [RD]
    refine ⟨a', cap, rfl, by omega, by omega, ?_⟩
    rcases h2.2 with ⟨e8, h0⟩ | ⟨g, cap', cur, e8, _⟩
    · have : es = [] := List.eq_nil_of_length_eq_zero (by omega)
      rw [this]; simp [RR]
    · cases e8
      have hd : RDL F' E.w es.flatten us := RVL.to_data (E := E') (RVL.mono hext _ _ h3)
      refine RR.of_cells hd (fun e he => ?_) h5 (fun j u hj => ⟨.inr ⟨rfl, ?_⟩, ?_⟩)
      · have := h4 (dV e) (List.mem_map_of_mem he)
        simpa [dV] using this
      · have := (List.getElem?_eq_some_iff.1 hj).1
        omega
      · have := h2.cells (g := g) rfl j u hj
        rw [Addr.add_any] at this
        simpa using this
  have hmo : ∀ u, RV E' (.mo n) u → RV E' (.ow n sz d0 es) u := fun u hu => by
    simp only [RV] at hu ⊢
    have : v = u := Option.some.inj (h1.symm.trans hu.1)
    exact ⟨hu.1, by rw [← this]; exact hrow⟩
  have new : ∀ b o, F'.c b o → E.F.c b o ∨ (hb v = some b ∧ o < es.length * sz) := fun _ _ h => h
  have old : ∀ m y, lkB (setB n (.tok el sz es.length) (frzM n (.ow n sz d0 es) s.st)) m = some y → ∃ y', lkB s.st m = some y' ∧ (m ≠ n → y = frzK n (.ow n sz d0 es) y') := fun m y hy => by
    rw [lkB_setB] at hy
    by_cases hm : m = n
    · exact ⟨_, by rw [hm]; exact hn, fun h => (h hm).elim⟩
    · rw [if_neg hm, lkB_frzM] at hy
      cases h : lkB s.st m with
      | none => rw [h] at hy; cases hy
      | some y' => rw [h] at hy; exact ⟨y', rfl, fun _ => (Option.some.inj hy).symm⟩
  refine ⟨E', rfl, ⟨hG.1.os, hG.1.tape, hG.1.output, hG.1.size, hG.1.old, Ft.le_trans hG.1.F0 hle, fun b o hc => ?_, hG.1.Fm, fun m y hy => ?_, fun i j p q b' v' u hij hpi hqj hvi huj hbi => ?_, hG.1.fresh, fun D hD => ?_⟩, fun t => ?_, hG.2.defers, hG.2.size⟩
  · rcases new b o hc with hc | ⟨hc, _⟩
    · exact hG.1.Fc b o hc
    · have hok := h7 b hc
      exact ⟨hok.1.elim (fun h => .inr (.inl h)) (fun h => .inr (.inr h)), hok.2.1⟩
  · show RBk P B E' m y
    by_cases hm : m = n
    · have hy' := hy
      rw [lkB_setB, if_pos hm] at hy'
      cases hy'
      rw [hm]
      refine ⟨v, us, h1, h2, fun b hb' => ?_⟩
      have hok := h7 b hb'
      exact ⟨hok.1, hok.2.1, hok.2.2.1, fun o ho => (new b o ho).elim (fun h => (hok.2.2.2 o h).elim) (fun h => h.2)⟩
    · obtain ⟨y', hy', hyy⟩ := old m y hy
      have hyy := hyy hm
      have hk : RBk P B E' m y' := (hG.1.st m y' hy').keep (fun _ h => h) hext (Nat.le_refl _) (fun _ _ _ _ _ => rfl) (fun v' b' p' hv' hb' hok' => ⟨hok'.1, hok'.2.1, hok'.2.2.1, fun o ho => (new b' o ho).elim (hok'.2.2.2 o) (fun h => (hG.1.dist n m _ y' b' v v' (Ne.symm hm) hn hy' h1 hv' h.1 hb').elim)⟩)
      rw [hyy]
      cases y' <;> try exact hk
      obtain ⟨b, us', k1, k2, k3, k4, k5⟩ := hk
      exact ⟨b, us', k1, k2, frz1s_ok hmo k3, k4, k5⟩
  · obtain ⟨p2, hp2, _⟩ := old i p hpi
    obtain ⟨q2, hq2, _⟩ := old j q hqj
    exact hG.1.dist i j p2 q2 b' v' u hij hp2 hq2 hvi huj hbi
  · obtain ⟨d1, d2, d3, d4⟩ := hG.1.dp D hD
    refine ⟨d1, d2, d3, fun o ho => (new D o ho).elim (d4 o) (fun h => ?_)⟩
    exact (hG.1.st n _ hn).nodp h1 h.1 d1
  · show RV E' (lkT (frzS n (.ow n sz d0 es) s.tm) t) _
    rcases lkT_frzS (n := n) (v := .ow n sz d0 es) t s.tm with h | ⟨_, h⟩
    · rw [h]; exact frz2_ok hmo (RV.mono hext _ _ (hG.2.tm t))
    · rw [h]; simp only [RV]
theorem aw_frzD (n : Nat) {el sz : Nat} {d0V : List V} (d0 : List D) {esV : List (List V)} (es : List (List D)) {c : Code} {Q : AQ} (hn : lkB s.st n = some (.row el sz d0V esV)) (hes : esV = es.map dV)
    (h : AW P B c Q ⟨⟩ ⟨frzS n (.ow n sz d0 es) s.tm, setB n (.tok el sz es.length) (frzM n (.ow n sz d0 es) s.st), s.nx⟩) : AW P B c Q ⟨⟩ s :=
  aw_weak (fun _ _ hG => gam_frzD hn hes hG) h
theorem gam_nilC {t j : Nat} {cs : List V} (el sz : Nat) (d0 : List V) (hn : lkB s.st n = some (.cells t cs)) (hj : cs[j]? = some (.d (.c (.slice none 0 0)))) {a : Act} (hG : Gam P B s E a) :
    ∃ E', E'.w = E.w ∧ Gam P B ⟨s.tm, (s.nx, .row el sz d0 []) :: setB n (.cells t (cs.set j (.mo s.nx))) s.st, s.nx + 1⟩ E' a := by
  let E' : Env := ⟨fun k => if k = s.nx then some (.slice none 0 0) else E.η k, E.F, E.w, E.dp⟩
  have hext : Ext E E' := ⟨fun k u hu => by
    show (if k = s.nx then _ else E.η k) = _
    by_cases hk : k = s.nx
    · subst hk; rw [hG.1.fresh _ (Nat.le_refl _)] at hu; cases hu
    · rw [if_neg hk]; exact hu, Ft.le_refl _, Kp.refl _ _⟩
  have hηo : ∀ k, k ≠ s.nx → E'.η k = E.η k := fun k hk => by simp [E', hk]
  have hne : n ≠ s.nx := fun e => by
    obtain ⟨b, us, h1, _⟩ := hG.1.st n _ hn
    rw [e, hG.1.fresh _ (Nat.le_refl _)] at h1; cases h1
  have old : ∀ m y, m ≠ s.nx → lkB ((s.nx, .row el sz d0 []) :: setB n (.cells t (cs.set j (.mo s.nx))) s.st) m = some y → ∃ y', lkB s.st m = some y' ∧ (m ≠ n → y = y') := fun m y hmx hy => by
    rw [lkB, if_neg hmx, lkB_setB] at hy
    by_cases hm : m = n
    · exact ⟨_, by rw [hm]; exact hn, fun h => (h hm).elim⟩
    · rw [if_neg hm] at hy; exact ⟨y, hy, fun _ => rfl⟩
  have hset : ∀ (l : List V) (us : List Value) (j : Nat), RVL E' l us → l[j]? = some (.d (.c (.slice none 0 0))) → RVL E' (l.set j (.mo s.nx)) us := by
    intro l
    induction l with
    | nil => intro us j _ h; simp at h
    | cons x l ih =>
      intro us j hr hj
      simp only [RVL] at hr
      obtain ⟨u, r, rfl, h2, h3⟩ := hr
      cases j with
      | zero =>
        simp at hj
        subst hj
        simp only [RV, RD] at h2
        subst h2
        simp only [List.set_cons_zero, RVL, RV]
        exact ⟨_, _, rfl, ⟨by simp [E'], none, 0, 0, rfl⟩, h3⟩
      | succ j =>
        simp only [List.set_cons_succ, RVL]
        exact ⟨u, r, rfl, h2, ih r j h3 (by simpa using hj)⟩
  refine ⟨E', rfl, ⟨hG.1.os, hG.1.tape, hG.1.output, hG.1.size, hG.1.old, hG.1.F0, hG.1.Fc, hG.1.Fm, fun m y hy => ?_, fun i j' p q b' v' u hij hpi hqj hvi huj hbi => ?_, fun k hk => ?_, hG.1.dp⟩, fun t => RV.mono hext _ _ (hG.2.tm t), hG.2.defers, hG.2.size⟩
  · show RBk P B E' m y
    by_cases hmx : m = s.nx
    · rw [lkB, if_pos hmx] at hy
      cases hy
      subst hmx
      exact ⟨.slice none 0 0, [], by simp [E'], World.ownsRow_nil _ _ _ _, by simp [RVL], by simp, by simp, by simp, fun b hb' => by simp [hb] at hb'⟩
    · have keep : ∀ y', lkB s.st m = some y' → RBk P B E' m y' := fun y' hy' => (hG.1.st m y' hy').keep (fun u hu => by rw [hηo m hmx]; exact hu) hext (Nat.le_refl _) (fun _ _ _ _ _ => rfl) (fun _ _ _ _ _ hok => hok)
      by_cases hm : m = n
      · rw [lkB, if_neg hmx, lkB_setB, if_pos hm] at hy
        cases hy
        rw [hm]
        obtain ⟨b, us, k1, k2, k3, k4, k5⟩ := keep _ (by rw [hm]; exact hn)
        rw [hm] at k1
        exact ⟨b, us, k1, k2, hset _ _ _ k3 hj, k4, k5⟩
      · obtain ⟨y', hy', e⟩ := old m y hmx hy
        rw [e hm]; exact keep y' hy'
  · by_cases hi : i = s.nx
    · subst hi
      have : v' = .slice none 0 0 := by simpa [E'] using hvi.symm
      subst this
      simp [hb] at hbi
    · by_cases hj' : j' = s.nx
      · subst hj'
        have : u = .slice none 0 0 := by simpa [E'] using huj.symm
        subst this
        simp [hb]
      · obtain ⟨p2, hp2, _⟩ := old i p hi hpi
        obtain ⟨q2, hq2, _⟩ := old j' q hj' hqj
        rw [hηo i hi] at hvi
        rw [hηo j' hj'] at huj
        exact hG.1.dist i j' p2 q2 b' v' u hij hp2 hq2 hvi huj hbi
  · have hk' : s.nx + 1 ≤ k := hk
    rw [hηo k (by omega)]; exact hG.1.fresh k (by show s.nx ≤ k; omega)
theorem aw_nilC (n j el sz : Nat) (d0 : List V) {t : Nat} {cs : List V} {c : Code} {Q : AQ} (hn : lkB s.st n = some (.cells t cs)) (hj : cs[j]? = some (.d (.c (.slice none 0 0))))
    (h : AW P B c Q ⟨⟩ ⟨s.tm, (s.nx, .row el sz d0 []) :: setB n (.cells t (cs.set j (.mo s.nx))) s.st, s.nx + 1⟩) : AW P B c Q ⟨⟩ s :=
  aw_weak (fun _ _ hG => gam_nilC el sz d0 hn hj hG) h
end
end Go.Proofs.Ytlnkmaejiceloaa


namespace Go.Proofs.Ytlnkmaejiceloaa
set_option linter.unusedVariables false
set_option linter.unusedSimpArgs false
open Go.RowKit
theorem frz_dV (n : Nat) (v : V) (l : List D) : (dV l).map (frz1 n v) = dV l := by
  unfold dV
  rw [List.map_map]
  exact List.map_congr_left fun x _ => rfl
section
variable {P : Program} {B : Base} {T : Tab}
structure StopAt (p : Prop) : Prop where
  go : p
theorem aw_stop {id : Nat} {ops : Array Oper} {b : Bool} {s : St} {Q : AQ} (h : StopAt (AW P B (.region id ops b) Q ⟨⟩ s)) : AW P B (.region id ops b) Q ⟨⟩ s := h.go
end
end Go.Proofs.Ytlnkmaejiceloaa


namespace Go.Proofs.Ytlnkmaejiceloaa
set_option linter.unusedVariables false
set_option linter.unusedSimpArgs false
open Go.RowKit
section
variable {P : Program} {B : Base} {T : Tab}
theorem gam_congr {s s1 : St} {E : Env} {a : Act} (ht : ∀ t, lkT s1.tm t = lkT s.tm t) (hb : ∀ n, lkB s1.st n = lkB s.st n) (hn : s1.nx = s.nx) (h : Gam P B s E a) : Gam P B s1 E a := by
  refine ⟨?_, ⟨fun t => by show RV E (lkT s1.tm t) _; rw [ht]; exact h.2.tm t, h.2.defers, h.2.size⟩⟩
  have e1 : lkB s1.st = lkB s.st := funext hb
  rw [e1, hn]
  exact h.1
theorem gam_less {s s1 : St} {E : Env} {a : Act} (ht : ∀ t, lkT s1.tm t = lkT s.tm t ∨ lkT s1.tm t = .any) (hb : ∀ n x, lkB s1.st n = some x → lkB s.st n = some x) (hn : s.nx ≤ s1.nx) (h : Gam P B s E a) : Gam P B s1 E a := by
  have h1 := h.1.sub (σ' := lkB s1.st) hb
  refine ⟨h1.congr (fun _ => rfl) (fun n hn' => Nat.le_trans hn hn'), fun t => ?_, h.2.defers, h.2.size⟩
  rcases ht t with e | e
  · rw [e]; exact h.2.tm t
  · rw [e]; simp only [RV]
theorem gam_name {s : St} {E : Env} {a : Act} {v : Value} {y : Blk} (hv : hb v = none) (hG : Gam P B s E a) (hy : ∀ E' : Env, E'.η s.nx = some v → E'.F = E.F → E'.w = E.w → RBk P B E' s.nx y) :
    ∃ E', E'.w = E.w ∧ Ext E E' ∧ E'.η s.nx = some v ∧ Gam P B ⟨s.tm, (s.nx, y) :: s.st, s.nx + 1⟩ E' a := by
  let E' : Env := ⟨fun k => if k = s.nx then some v else E.η k, E.F, E.w, E.dp⟩
  have hs : HStep E E' s.nx := ⟨Below.refl _ _, fun k hk => by simp [E', hk], ⟨Ft.le_refl _, fun _ _ h => .inl h, fun _ h => .inl h⟩, rfl⟩
  have hext := hs.ext hG.1.lt (hG.1.fresh _ (Nat.le_refl _))
  have hη : E'.η s.nx = some v := by simp [E']
  have hσn : lkB s.st s.nx = none := hG.1.none_of_fresh (Nat.le_refl _)
  have hx : NewB P B E E' s.nx (some y) := ⟨v, hη, (fun b hb' => by rw [hv] at hb'; cases hb'), hy E' hη rfl rfl⟩
  exact ⟨E', rfl, hext, hη, hG.1.head (σ' := lkB ((s.nx, y) :: s.st)) (fr' := fun n => s.nx + 1 ≤ n) hs hx (Nat.le_refl _) (fun n => rfl) hσn (fun n hn' => ⟨by omega, fun _ => by omega⟩), hG.2.ext hext rfl⟩
theorem callI_nilA {f : FuncId} {vs : List V} {d : Option Tmp} {K : St → Prop} {s : St} (el sz : Nat) (d0 : List V) (h : callI P B f (.mo s.nx :: vs) d ⟨s.tm, (s.nx, .row el sz d0 []) :: s.st, s.nx + 1⟩ K ⟨⟩) : callI P B f (.d (.c (.slice none 0 0)) :: vs) d s K ⟨⟩ := by
  refine ⟨h.1, fun E a us hG hv => ?_⟩
  obtain ⟨E', hw, hext, hη, hG'⟩ := gam_name (v := .slice none 0 0) (y := .row el sz d0 []) rfl hG (fun E' hη _ _ => ⟨.slice none 0 0, [], hη, World.ownsRow_nil _ _ _ _, by simp [RVL], by simp, by simp, by simp, fun b hb' => by simp [hb] at hb'⟩)
  rw [← hw]
  refine h.2 E' a us hG' ?_
  simp only [RVL] at hv ⊢
  obtain ⟨u, r, rfl, h1, h2⟩ := hv
  simp only [RV, RD] at h1
  subst h1
  exact ⟨_, r, rfl, by simp only [RV]; exact ⟨hη, none, 0, 0, rfl⟩, RVL.mono hext _ _ h2⟩
theorem keyOk_str {k : TypeId} (hk : P.underlying k = some .string) : KeyOk P k .s := by
  refine ⟨Go.Maps.string_keyed hk, fun u c hu hc => ?_⟩
  cases u <;> simp only [keyC] at hu <;> try (cases hu; done)
  rename_i s
  cases hu
  have hc' : (s.data.toList.map fun b => (b.toNat : Int)).length ≤ 9223372036854775807 := hc
  rw [Go.WideMaps.keyOf_string_mk hk (by rw [List.length_map, Array.length_toList] at hc'; exact hc')]
  rfl
theorem run_append_own4 (w : World) (t ty e : TypeId) (i : TypeInfo) (z : Value) (size bytes : Nat) (ht : P.underlying t = some (.slice e)) (hi : P.info? e = some i) (hz : i.zero = some z)
    (hsize : i.size = size) (hby : i.bytes = bytes) (hzs : z.cells.size = size) (hsz : 0 < size)
    (v : Value) (n : Nat) (xs : List Value) (hown : w.ownsRow 0 e size v n xs)
    (a : Addr) (m c : Nat) (news : List Value) (hl : news.length = m * size) (hnews : ∀ j u, news[j]? = some u → w.cell? (a.add j) = some u) (h1 : ∀ u ∈ news, u.oneCell' = true)
    (h63 : n + m ≤ maxLen) (hbytes : (n + m) * bytes ≤ 140737488355328) :
    ∃ v' w', (Builtin.append_ #[t, t] ty #[v, .slice (some a) m c]).run P w = .ok v' w' ∧ Grew 0 e size w v v' (n + m) (xs ++ news) w' ∧
      ((∃ g cap, v = .slice (some ⟨g, 0, none⟩) n cap ∧ v' = .slice (some ⟨g, 0, none⟩) (n + m) cap) ∨ ((∀ k, k < w.heap.size → w'.heap[k]? = w.heap[k]?) ∧ ∀ g, v'.ownBlock = some g → w.heap.size ≤ g)) := by
  obtain ⟨v', w', hr, h2⟩ := run_append_own2 (P := P) w 0 t ty e i z size bytes ht hi hz hsize hby hzs hsz v n xs hown a m c news hl hnews h1 h63 hbytes (Nat.zero_le _)
  refine ⟨v', w', hr, h2, ?_⟩
  subst hsize
  subst hby
  have hsmall : n + m ≤ 9223372036854775807 := by simp only [maxLen] at h63; omega
  rcases hown.2 with ⟨rfl, rfl⟩ | ⟨g0, cap, cur, rfl, hbg, hg0, hnc, hcm, hcs, htake⟩
  · refine .inr ⟨fun k hk => h2.other hk (by simp [Value.ownBlock]), fun g hg => ?_⟩
    rcases h2.new g hg with h | h
    · exact h
    · cases h
  · by_cases hroom : n + m ≤ cap
    · have hfit : n * i.size + news.length ≤ cur.size := by rw [hl, hcs, ← Nat.add_mul]; exact Nat.mul_le_mul_right _ hroom
      have hr2 := run_append_room (P := P) w t ty e i ht hi g0 n cap cur hg0 a m c news hl hnews h1 hroom hfit
      rw [hr2] at hr
      injection hr with e1 e2
      exact .inl ⟨g0, cap, rfl, e1.symm⟩
    · have hr2 := run_append_grow (P := P) w t ty e i z ht hi hz ⟨g0, 0, none⟩ n cap xs hown.1 (hown.cells (g := g0) rfl) a m c news hl hnews (by omega) (by omega) (growslice_fits (by omega) hbytes)
      rw [hr2] at hr
      injection hr with e1 e2
      refine .inr ⟨fun k hk => ?_, fun g hg => ?_⟩
      · rw [← e2]; exact Below.heap_alloc w.drew _ k hk
      · rw [← e1] at hg
        injection hg with hg
        subst hg
        exact Nat.le_refl _
def InRoom (n m : Nat) (v v' : Value) : Prop := ∃ g cap, v = .slice (some ⟨g, 0, none⟩) n cap ∧ v' = .slice (some ⟨g, 0, none⟩) (n + m) cap
theorem gam_back {s : St} {n n' el sz t t' : Nat} {d0 : List V} {es fs : List (List V)} {E : Env} {a : Act} (h' : lkB s.st n' = some (.row el sz d0 (es ++ fs))) (hn : n ≠ n') (ht : lkT s.tm t = .mo n) (ht' : lkT s.tm t' = .mo n') (hL : InRoom es.length fs.length (vOf B a t) (vOf B a t')) (hG : Gam P B s E a) :
    Gam P B ⟨s.tm, (n, .row el sz d0 es) :: delB n' s.st, s.nx⟩ E a := by
  obtain ⟨g, cap, hv, hv'⟩ := hL
  have r1 := hG.2.tm t
  have r2 := hG.2.tm t'
  rw [ht, hv] at r1
  rw [ht', hv'] at r2
  simp only [RV] at r1 r2
  obtain ⟨v2, us, k1, k2, k3, k4, k5, k6, k7⟩ := hG.1.st n' _ h'
  rw [r2.1] at k1
  cases k1
  have hlk : ∀ k, lkB ((n, .row el sz d0 es) :: delB n' s.st) k = if k = n then some (.row el sz d0 es) else if k = n' then none else lkB s.st k := fun k => by rw [lkB, lkB_delB]
  have hlen : es.flatten.length = es.length * sz := by
    have := fun x hx => k4 x (List.mem_append_left fs hx)
    clear k3 k4 k2 h' hlk hv hv' r1 r2 k6 k7
    induction es with
    | nil => simp
    | cons x es ih => rw [List.flatten_cons, List.length_append, ih (fun y hy => this y (by simp [hy])), this x (by simp), List.length_cons, Nat.add_mul]; omega
  refine ⟨⟨hG.1.os, hG.1.tape, hG.1.output, hG.1.size, hG.1.old, hG.1.F0, hG.1.Fc, hG.1.Fm, fun k y hy => ?_, fun i j p q b v u hij hp hq hvi huj hbi => ?_, hG.1.fresh, hG.1.dp⟩, hG.2⟩
  · rw [hlk] at hy
    by_cases hk : k = n
    · rw [if_pos hk] at hy
      cases hy
      subst hk
      refine ⟨_, us.take (es.length * sz), r1.1, ?_, ?_, fun x hx => k4 x (List.mem_append_left _ hx), fun u hu => k5 u (List.mem_of_mem_take hu), by rw [List.length_append] at k6; omega, fun b hb' => k7 b hb'⟩
      · have hl := k2.1
        rcases k2.2 with ⟨e1, _⟩ | ⟨g', cap', cur, e1, e2, e3, e4, e5, e6, e7⟩
        · cases e1
        · rw [List.length_append] at e1
          cases e1
          have hle : es.length * sz ≤ (es ++ fs).length * sz := Nat.mul_le_mul_right _ (by simp)
          refine ⟨by rw [List.length_take, hl]; omega, .inr ⟨g, cap, cur, rfl, e2, e3, by rw [List.length_append] at e4; omega, e5, e6, ?_⟩⟩
          rw [← e7, List.take_take, Nat.min_eq_left hle]
      · have := k3.take es.flatten.length
        rw [List.flatten_append, List.take_left', hlen] at this
        · exact this
        · rfl
    · rw [if_neg hk] at hy
      by_cases hk' : k = n'
      · rw [if_pos hk'] at hy; cases hy
      · rw [if_neg hk'] at hy; exact hG.1.st k y hy
  · rw [hlk] at hp hq
    have old : ∀ k q, k ≠ n → (if k = n then some (.row el sz d0 es) else if k = n' then none else lkB s.st k) = some q → k ≠ n' ∧ lkB s.st k = some q := fun k q hk hq => by
      rw [if_neg hk] at hq
      by_cases hk' : k = n'
      · rw [if_pos hk'] at hq; cases hq
      · rw [if_neg hk'] at hq; exact ⟨hk', hq⟩
    by_cases hi : i = n
    · subst hi
      have hj : j ≠ i := fun e => hij e.symm
      obtain ⟨hj', hq'⟩ := old j q hj hq
      rw [r1.1] at hvi
      cases hvi
      exact hG.1.dist n' j _ q b _ u (fun e => hj' e.symm) h' hq' r2.1 huj hbi
    · obtain ⟨hi', hp'⟩ := old i p hi hp
      by_cases hj : j = n
      · subst hj
        rw [r1.1] at huj
        cases huj
        have := hG.1.dist i n' p _ b v _ hi' hp' h' hvi r2.1 hbi
        exact this
      · obtain ⟨hj', hq'⟩ := old j q hj hq
        exact hG.1.dist i j p q b v u hij hp' hq' hvi huj hbi
end
end Go.Proofs.Ytlnkmaejiceloaa


namespace Go.Proofs.Ytlnkmaejiceloaa
set_option linter.unusedVariables false
set_option linter.unusedSimpArgs false
open Go.RowKit
def drawOkW (l : List Oper) (hd tail : List Nat) (iw tA dW : Nat) : Bool :=
  sinkT .any l.toArray (fun i => hd.contains i) && tail.all (fun t => !hd.contains t) && (List.range l.length).all (fun i => hd.contains i || tail.contains i) && hd.all (fun i => decide (i < l.length)) && decide hd.Nodup &&
  (List.range l.length).all (fun i => match l[i]? with | some o => o.after.toList.all fun e => !Region.binds .any e || decide (e.on < i) | none => true) && incr (pickOps l (hd.filter (fun i => i != iw))) &&
  (pickOps l (hd.filter (fun i => i != iw))).all (fun p => (p.2.looksAt l.toArray).all fun t => t != dW && (pickOps l (hd.filter (fun i => i != iw))).all fun q => q.2.dst != some t || (if q.1 < p.1 then reachB .any l.toArray l.length p.1 q.1 else decide (p.1 < q.1) && reachB .any l.toArray l.length q.1 p.1)) &&
  seqT .any l.toArray tail (canonH l.length hd) && decide (hd.length + tail.length = l.length) && hd.contains iw &&
  (pickOps l (hd.filter (fun i => i != iw))).all (fun q => q.2.dst != some dW && q.2.dst != some tA) && (dW != tA) &&
  (match l[iw]? with
    | some o => o.dst == some dW && o.guard == none && (o.looksAt l.toArray).all fun t => t != dW && (pickOps l (hd.filter (fun i => i != iw))).all fun q => q.2.dst != some t || reachB .any l.toArray l.length iw q.1
    | none => false)
def selS {ι : Type} (st0 : List (Nat × Blk)) (st1 : ι → List (Nat × Blk)) : Option ι → List (Nat × Blk)
  | some c => st1 c
  | none => st0
section
variable {P : Program} {B : Base} {T : Tab}
theorem wpAny_headsW {ι : Type} {l : List Oper} {hd tail : List Nat} {iw tA dW : Nat} {Q : Exit → Act → World → Prop} {tm0 tmF : List (Nat × V)} {stH st0 nbF : List (Nat × Blk)} {st1 : ι → List (Nat × Blk)} {xW : ι → Blk} {vW : V} {LK : ι → Value → Value → Prop} {nx : Nat} (hok : drawOkW l hd tail iw tA dW = true) (hrun : HRun P B l.toArray stH nx tmF nbF (pickOps l (hd.filter (fun i => i != iw))) tm0 []) (hN : (l.all (opOk B.N)) = true)
    (hst0 : ∀ n, nx ≤ n → lkB st0 n = none) (hst1 : ∀ c n, nx ≤ n → lkB (st1 c) n = none) (hs0 : ∀ n b, lkB stH n = some b → lkB st0 n = some b) (hs1 : ∀ c n b, lkB stH n = some b → lkB (st1 c) n = some b)
    (hwr : ∀ ow, l[iw]? = some ow → ∀ (tm : Nat → V) (σ : Nat → Option Blk) (fr : Nat → Prop) (E : Env) (a : Act), GamS P B σ fr E → GamT B tm E a → fr (nx + iw) → (∀ n, n < nx → σ n = lkB st0 n) → tm tA = lkT tm0 tA → (∀ t ∈ ow.looksAt l.toArray, tm t = lkT tmF t) →
      Upon P (fun u w' => ∃ c E', E'.w = w' ∧ GamS P B (fun n => if n = nx + iw then some (xW c) else if n < nx then lkB (st1 c) n else σ n) (fun n => fr n ∧ n ≠ nx + iw) E' ∧ Ext E E' ∧ E'.dp = E.dp ∧ RV E' vW u ∧ LK c (vOf B a tA) u) ((execOp a.eval ow).run P E.w))
    (hQ : ∀ c E a, Gam P B ⟨(dW, vW) :: tmF, (nx + iw, xW c) :: (nbF ++ st1 c), nx + l.length⟩ E a → LK c (vOf B a tA) (vOf B a dW) → wpListIn (fen B.r) 0 P l.toArray Q ((pickOps l tail).map (·.2)) a E.w) :
    ∀ (F : Nat) (co : Option ι) (listed : Array Bool) (E : Env) (a : Act), GInv .any l.toArray listed → (∀ t ∈ tail, listed.getD t false = false) → hd.countP (fun i => !listed.getD i false) = F → co.isSome = listed.getD iw false → (∀ c, co = some c → LK c (vOf B a tA) (vOf B a dW)) →
      GamS P B (fun n => if n = nx + iw then co.map xW else if nx ≤ n then (if listed.getD (n - nx) false = true then lkB nbF n else none) else lkB (selS st0 st1 co) n) (fun n => nx ≤ n ∧ (listed.getD (n - nx) false = true → lkB nbF n = none) ∧ (co.isSome = true → n ≠ nx + iw)) E →
      GamT B (fun t => if co.isSome = true ∧ t = dW then vW else if ((pickOps l (hd.filter (fun i => i != iw))).any fun p => p.2.dst == some t && listed.getD p.1 false) = true then lkT tmF t else lkT tm0 t) E a → wpAnyIn (fen B.r) 0 P .any l.toArray Q (F + tail.length) listed a E.w := by
  simp only [drawOkW, Bool.and_eq_true] at hok
  obtain ⟨⟨⟨⟨⟨⟨⟨⟨⟨⟨⟨⟨⟨hsink, htl⟩, hpart⟩, hlt⟩, hnd⟩, hedge⟩, hincr⟩, hdep⟩, hseq⟩, _⟩, hiwh⟩, hdst⟩, hdA⟩, hwok⟩ := hok
  have hdA : dW ≠ tA := by simpa using hdA
  have hiwh' : iw ∈ hd := by simpa using hiwh
  have hmN : ∀ {j : Nat}, j ∈ hd.filter (fun i => i != iw) ↔ j ∈ hd ∧ j ≠ iw := fun {j} => by simp [List.mem_filter]
  have hdst' : ∀ p ∈ pickOps l (hd.filter (fun i => i != iw)), p.2.dst ≠ some dW ∧ p.2.dst ≠ some tA := fun p hp => by
    have := List.all_eq_true.1 hdst p hp
    simpa using this
  obtain ⟨f1, f2, f3⟩ := hrun_facts _ _ _ hincr hrun
  have hnd' : hd.Nodup := by simpa using hnd
  have htl' : ∀ t ∈ tail, hd.contains t = false := fun t ht => by have := List.all_eq_true.1 htl t ht; simpa using this
  have hnbw : lkB nbF (nx + iw) = none := by
    rw [f2 (nx + iw) (fun p hp e => (hmN.1 (pickOps_mem.1 hp).1).2 (by omega))]; rfl
  intro F
  induction F with
  | zero =>
    intro co listed E a inv hT hcnt hco hLK hS hGT
    have hall : ∀ i ∈ hd, listed.getD i false = true := fun i hi => by
      have := List.countP_eq_zero.1 hcnt i hi
      simpa using this
    rw [hall iw hiwh'] at hco
    obtain ⟨c, rfl⟩ := Option.isSome_iff_exists.1 hco
    have hsz : listed.size = l.length := by rw [inv.size]; simp
    have hcan : listed = canonH l.length hd := by
      refine Array.ext_getElem? fun i => ?_
      have hcs := (foldl_canon hd (Array.replicate l.length false) i)
      have hcsz : (canonH l.length hd).size = l.length := by unfold canonH; rw [hcs.1]; simp
      by_cases hi : i < l.length
      · have e1 : listed[i]? = some (listed.getD i false) := by simp [Array.getD_eq_getD_getElem?, hsz, hi]
        have e2 : (canonH l.length hd)[i]? = some ((canonH l.length hd).getD i false) := by simp [Array.getD_eq_getD_getElem?, hcsz, hi]
        rw [e1, e2]
        congr 1
        unfold canonH
        rw [hcs.2]
        rw [getD_replicate_false]
        simp only [Array.size_replicate, Bool.false_or]
        by_cases hh : hd.contains i = true
        · rw [hh, hall i (by simpa using hh)]; simp [hi]
        · have := List.all_eq_true.1 hpart i (List.mem_range.2 hi)
          simp only [Bool.or_eq_true] at this
          rcases this with h | h
          · exact (hh h).elim
          · rw [hT i (by simpa using h)]; simp only [Bool.not_eq_true] at hh; rw [hh]; rfl
      · rw [Array.getElem?_eq_none (by omega), Array.getElem?_eq_none (by omega)]
    rw [Nat.zero_add]
    have hil : iw < l.length := by have := List.all_eq_true.1 hlt iw hiwh'; simpa using this
    refine wpAnyIn_of_seqT tail listed a E.w (by rw [hcan]; exact hseq) (hQ c E a ⟨hS.congr (fun n => ?_) (fun n hn => ?_), ⟨fun t => ?_, hGT.defers, hGT.size⟩⟩ (hLK c rfl))
    · -- the blocks
      have hap : lkB (nbF ++ st1 c) n = match lkB nbF n with | some b => some b | none => lkB (st1 c) n := by
        generalize nbF = nb
        induction nb with
        | nil => rfl
        | cons p nb ih =>
          obtain ⟨k, b⟩ := p
          simp only [List.cons_append, lkB]
          split
          · rfl
          · exact ih
      show lkB ((nx + iw, xW c) :: (nbF ++ st1 c)) n = _
      rw [lkB, hap]
      by_cases hnw : n = nx + iw
      · rw [if_pos hnw, if_pos hnw]; rfl
      rw [if_neg hnw, if_neg hnw]
      by_cases hn : nx ≤ n
      · rw [if_pos hn]
        by_cases hh : hd.contains (n - nx) = true
        · rw [if_pos (hall _ (by simpa using hh)), hst1 c n hn]; cases lkB nbF n <;> rfl
        · have : lkB nbF n = none := by
            rw [f2 n (fun p hp e => hh ?_)]; rfl
            have := (hmN.1 (pickOps_mem.1 hp).1).1
            rw [e, Nat.add_sub_cancel_left]; simpa using this
          rw [this, hst1 c n hn]; simp
      · rw [if_neg hn]
        have : lkB nbF n = none := by
          rw [f2 n (fun p hp e => by omega)]; rfl
        rw [this]; rfl
    · have hn' : nx + l.length ≤ n := hn
      refine ⟨by omega, fun h => ?_, fun _ => by omega⟩
      rw [show listed.getD (n - nx) false = false by
        simp [Array.getD_eq_getD_getElem?, Array.getElem?_eq_none (show listed.size ≤ n - nx by omega)]] at h
      cases h
    · have := hGT.tm t
      show RV E (lkT ((dW, vW) :: tmF) t) _
      rw [lkT]
      by_cases htw : t = dW
      · rw [if_pos htw]; rw [if_pos ⟨rfl, htw⟩] at this; exact this
      rw [if_neg htw]
      rw [if_neg (fun h => htw h.2)] at this
      by_cases hw : ((pickOps l (hd.filter (fun i => i != iw))).any fun p => p.2.dst == some t && listed.getD p.1 false) = true
      · rw [if_pos hw] at this; exact this
      · rw [if_neg hw] at this
        rw [f1 t (fun p hp e => hw (List.any_eq_true.2 ⟨p, hp, by simp [e, hall p.1 (hmN.1 (pickOps_mem.1 hp).1).1]⟩))]
        exact this
  | succ F ih =>
    intro co listed E a inv hT hcnt hco hLK hS hGT
    have hsz : listed.size = l.length := by rw [inv.size]; simp
    rw [show F + 1 + tail.length = (F + tail.length) + 1 by omega]
    obtain ⟨k, hk, hku⟩ : ∃ k, k ∈ hd ∧ listed.getD k false = false := by
      have : 0 < hd.countP (fun i => !listed.getD i false) := by omega
      obtain ⟨k, h1, h2⟩ := List.countP_pos_iff.1 this
      exact ⟨k, h1, by simpa using h2⟩
    have hkl : k < l.length := by have := List.all_eq_true.1 hlt k hk; simpa using this
    have hku' : listed.getD k true = false := getD_in (by omega) hku
    refine ⟨fun hr => ?_, fun i hi => ?_⟩
    · obtain ⟨m, ⟨hm1, hm2⟩, hm3⟩ := exists_min (p := fun m => m < l.length ∧ listed.getD m false = false) ⟨k, hkl, hku⟩
      have : m ∈ Region.ready .any l.toArray listed := by
        refine mem_ready.2 ⟨getD_in (by omega) hm2, l[m], by simp [hm1], fun e he hb => ?_⟩
        have h1 := List.all_eq_true.1 hedge m (List.mem_range.2 hm1)
        rw [List.getElem?_eq_getElem hm1] at h1
        have h2 := List.all_eq_true.1 h1 e (by simpa using he)
        rw [hb] at h2
        simp at h2
        cases hc : listed.getD e.on false with
        | true => rfl
        | false => exact (hm3 e.on h2 ⟨by omega, hc⟩).elim
      rw [hr] at this
      cases this
    · have hih := sink_spec hsink inv (i := k) (by simpa using hkl) (by simpa using hk) hku' hi
      have hi' : i ∈ hd := by simpa using hih
      obtain ⟨hiun, o, ho, hafter⟩ := mem_ready.1 hi
      have hol : l[i]? = some o := by simpa using ho
      have hil : i < l.length := (List.getElem?_eq_some_iff.1 hol).1
      have hiun' := getD_both hiun
      have hopk := List.all_eq_true.1 hN o (List.mem_of_getElem? hol)
      have inv2 := inv.set hi
      have hself : (listed.setIfInBounds i true).getD i false = true := by simp [hsz, hil]
      have hoth : ∀ j, j ≠ i → (listed.setIfInBounds i true).getD j false = listed.getD j false := fun j hj => getD_set_ne false (Ne.symm hj)
      have hT2 : ∀ t ∈ tail, (listed.setIfInBounds i true).getD t false = false := fun t ht => by
        rw [hoth t (fun e => by have := htl' t ht; rw [e] at this; rw [this] at hih; cases hih)]; exact hT t ht
      have hcnt2 : hd.countP (fun j => !(listed.setIfInBounds i true).getD j false) = F := by
        have := countP_set hnd' hi' (f := fun j => !listed.getD j false) (g := fun j => !(listed.setIfInBounds i true).getD j false) (by simp [hiun']) (by simp [hself]) (fun j hj => by rw [hoth j hj])
        omega
      have hdN : ∀ t, o.dst = some t → t < B.N := fun t e => by
        have : (match o.dst with | some d => decide (d < B.N) | none => true) = true := by
          simp only [opOk, Bool.and_eq_true] at hopk; exact hopk.2
        rw [e] at this
        simpa using this
      by_cases hiw : i = iw
      · -- the append
        subst hiw
        rw [hol] at hwok
        simp only [Bool.and_eq_true] at hwok
        obtain ⟨⟨hwd, hwg⟩, hwl⟩ := hwok
        have hwd' : o.dst = some dW := by simpa using hwd
        have hwg' : o.guard = none := by simpa using hwg
        rw [hiun'] at hco
        have hcn : co = none := by cases co with
          | none => rfl
          | some c => cases hco
        subst hcn
        have hag : ∀ t ∈ o.looksAt l.toArray, (if (none : Option ι).isSome = true ∧ t = dW then vW else if ((pickOps l (hd.filter (fun j => j != i))).any fun p => p.2.dst == some t && listed.getD p.1 false) = true then lkT tmF t else lkT tm0 t) = lkT tmF t := fun t ht => by
          rw [if_neg (fun h => by cases h.1)]
          by_cases hw : ((pickOps l (hd.filter (fun j => j != i))).any fun p => p.2.dst == some t && listed.getD p.1 false) = true
          · rw [if_pos hw]
          · rw [if_neg hw]
            refine (f1 t (fun q hq hqt => hw (List.any_eq_true.2 ⟨q, hq, ?_⟩))).symm
            have h0 := List.all_eq_true.1 hwl t ht
            simp only [Bool.and_eq_true] at h0
            have h1 := List.all_eq_true.1 h0.2 q hq
            simp only [Bool.or_eq_true, bne_iff_ne, ne_eq] at h1
            rcases h1 with h | h
            · exact (h hqt).elim
            · have := reach_listed inv _ _ _ h (fun o' ho' e he hb => by
                have : o' = o := Option.some.inj (ho'.symm.trans ho)
                subst this
                exact hafter e he hb)
              simp [hqt, this]
        have hw : Region.wanted o (yielded l.toArray a.tmps) = true := by simp [Region.wanted, hwg']
        have htA : (if (none : Option ι).isSome = true ∧ tA = dW then vW else if ((pickOps l (hd.filter (fun j => j != i))).any fun p => p.2.dst == some tA && listed.getD p.1 false) = true then lkT tmF tA else lkT tm0 tA) = lkT tm0 tA := by
          rw [if_neg (fun h => by cases h.1), if_neg]
          intro h
          obtain ⟨p, hp, h⟩ := List.any_eq_true.1 h
          simp only [Bool.and_eq_true, beq_iff_eq] at h
          exact (hdst' p hp).2 h.1
        have h1 := hwr o hol _ _ _ E a hS hGT ⟨by omega, fun h => (by rw [Nat.add_sub_cancel_left, hiun'] at h; cases h), fun h => by cases h⟩ (fun n hn => by rw [if_neg (by omega), if_neg (by omega)]; rfl) htA hag
        unfold wpOpIn
        simp only [ho, hw, if_true]
        refine h1.wpIn ?_
        rintro u w' ⟨c, E', rfl, hS', hext, hdp, hv, hlk⟩
        rw [hwd']
        have hvA : vOf B (a.put (some dW) u) tA = vOf B a tA := by
          rw [vOf_put hGT.size (fun t e => hdN t (by rw [hwd', e])), if_neg (fun e => hdA (by injection e))]
        have hvW : vOf B (a.put (some dW) u) dW = u := by
          rw [vOf_put hGT.size (fun t e => hdN t (by rw [hwd', e])), if_pos rfl]
        refine ih (some c) _ E' _ inv2 hT2 hcnt2 (by rw [hself]; rfl) (fun c' hc' => by cases hc'; rw [hvA, hvW]; exact hlk) (hS'.congr (fun n => ?_) (fun n hn => ⟨⟨hn.1, fun h => hn.2.1 (getD_set_true h), fun h => by cases h⟩, hn.2.2 rfl⟩)) ((hGT.ext hext hdp).putF (fun t e => ⟨hv, hdN t (by rw [hwd', e])⟩) (fun t => ?_))
        · by_cases hnw : n = nx + i
          · simp only [if_pos hnw]; rfl
          · simp only [if_neg hnw]
            by_cases hn : nx ≤ n
            · have h3 : ¬ n < nx := by omega
              simp only [if_pos hn, if_neg h3]
              rw [hoth _ (by omega)]
            · have h3 : n < nx := by omega
              simp only [if_neg hn, if_pos h3]
              rfl
        · by_cases htw : t = dW
          · rw [if_pos ⟨rfl, htw⟩, if_pos (by rw [htw])]
          · have e : ((pickOps l (hd.filter (fun j => j != i))).any fun p => p.2.dst == some t && (listed.setIfInBounds i true).getD p.1 false) = ((pickOps l (hd.filter (fun j => j != i))).any fun p => p.2.dst == some t && listed.getD p.1 false) := by
              rw [Bool.eq_iff_iff, List.any_eq_true, List.any_eq_true]
              constructor
              · rintro ⟨p, hp, h⟩
                rw [hoth p.1 (hmN.1 (pickOps_mem.1 hp).1).2] at h
                exact ⟨p, hp, h⟩
              · rintro ⟨p, hp, h⟩
                refine ⟨p, hp, ?_⟩
                rw [hoth p.1 (hmN.1 (pickOps_mem.1 hp).1).2]
                exact h
            rw [e, if_neg (show ¬ ((some c : Option ι).isSome = true ∧ t = dW) from fun h => htw h.2), if_neg (show ¬ some dW = some t from fun h => htw (by injection h with h; exact h.symm)), if_neg (show ¬ ((none : Option ι).isSome = true ∧ t = dW) from fun h => htw h.2)]
      have hmem : (i, o) ∈ pickOps l (hd.filter (fun i => i != iw)) := pickOps_mem.2 ⟨hmN.2 ⟨hi', hiw⟩, hol⟩
      obtain ⟨hd1W, hd1A⟩ := hdst' _ hmem
      simp only at hd1W hd1A
      have hst : ∀ n b, lkB stH n = some b → (if n = nx + iw then co.map xW else if nx ≤ n then (if listed.getD (n - nx) false = true then lkB nbF n else none) else lkB (selS st0 st1 co) n) = some b := fun n b hb => by
        have hn : ¬ nx ≤ n := fun hn => by have := hs0 n b hb; rw [hst0 n hn] at this; cases this
        rw [if_neg (by omega), if_neg hn]
        cases co with
        | none => exact hs0 n b hb
        | some c => exact hs1 c n b hb
      obtain ⟨tmi, v, x, g1, g2, g3, g4, g5⟩ := f3 (i, o) hmem
      simp only at g1 g2 g3 g4 g5
      have g3 := g3 rfl
      -- what it looks at is as it was evaluated
      have hag : ∀ t ∈ o.looksAt l.toArray, (if co.isSome = true ∧ t = dW then vW else if ((pickOps l (hd.filter (fun i => i != iw))).any fun p => p.2.dst == some t && listed.getD p.1 false) = true then lkT tmF t else lkT tm0 t) = tmi t := fun t ht => by
        have hd1 := List.all_eq_true.1 hdep (i, o) hmem
        have hd2 := List.all_eq_true.1 hd1 t ht
        simp only [Bool.and_eq_true] at hd2
        obtain ⟨hd0, hd2⟩ := hd2
        have hd0 : t ≠ dW := by simpa using hd0
        rw [if_neg (fun h => hd0 h.2)]
        by_cases hw : ((pickOps l (hd.filter (fun i => i != iw))).any fun p => p.2.dst == some t && listed.getD p.1 false) = true
        · rw [if_pos hw]
          obtain ⟨q, hq, hq2⟩ := List.any_eq_true.1 hw
          simp only [Bool.and_eq_true, beq_iff_eq] at hq2
          have hd3 := List.all_eq_true.1 hd2 q hq
          simp only [Bool.or_eq_true, bne_iff_ne, ne_eq] at hd3
          rcases hd3 with h | h
          · exact (h hq2.1).elim
          · by_cases hlt2 : q.1 < i
            · exact (g4 t q hq hlt2 hq2.1).symm
            · rw [if_neg hlt2] at h
              simp only [Bool.and_eq_true, decide_eq_true_eq] at h
              have := reach_listed inv _ _ _ h.2 (fun o' ho' e he hb => inv.closed q.1 o' ho' hq2.2 e he hb)
              rw [hiun'] at this
              cases this
        · rw [if_neg hw]
          refine (g5 t (fun q hq hql hqt => hw (List.any_eq_true.2 ⟨q, hq, ?_⟩))).symm
          have hd3 := List.all_eq_true.1 hd2 q hq
          simp only [Bool.or_eq_true, bne_iff_ne, ne_eq] at hd3
          rcases hd3 with h | h
          · exact (h hqt).elim
          · rw [if_pos hql] at h
            have := reach_listed inv _ _ _ h (fun o' ho' e he hb => by
              have : o' = o := Option.some.inj (ho'.symm.trans ho)
              subst this
              exact hafter e he hb)
            simp [hqt, this]
      obtain ⟨h1, h2⟩ := g1 _ _ _ E a hS hGT ⟨by omega, fun h => (by rw [Nat.add_sub_cancel_left, hiun'] at h; cases h), fun _ => by omega⟩ hst hag
      have hoiw : (listed.setIfInBounds i true).getD iw false = listed.getD iw false := hoth iw (fun e => hiw e.symm)
      have hσ2 : ∀ n, (if n = nx + iw then co.map xW else if nx ≤ n then (if (listed.setIfInBounds i true).getD (n - nx) false = true then lkB nbF n else none) else lkB (selS st0 st1 co) n) = if n = nx + i then x else (if n = nx + iw then co.map xW else if nx ≤ n then (if listed.getD (n - nx) false = true then lkB nbF n else none) else lkB (selS st0 st1 co) n) := fun n => by
        by_cases hn : n = nx + i
        · subst hn
          rw [if_neg (by omega), if_pos rfl, if_pos (by omega), Nat.add_sub_cancel_left, if_pos hself, g3]
        · rw [if_neg hn]
          by_cases hnw : n = nx + iw
          · rw [if_pos hnw, if_pos hnw]
          rw [if_neg hnw, if_neg hnw]
          by_cases hn2 : nx ≤ n
          · rw [if_pos hn2, if_pos hn2, hoth (n - nx) (by omega)]
          · rw [if_neg hn2, if_neg hn2]
      have hfr2 : ∀ n, (nx ≤ n ∧ ((listed.setIfInBounds i true).getD (n - nx) false = true → lkB nbF n = none) ∧ (co.isSome = true → n ≠ nx + iw)) → (nx ≤ n ∧ (listed.getD (n - nx) false = true → lkB nbF n = none) ∧ (co.isSome = true → n ≠ nx + iw)) ∧ (x.isSome = true → n ≠ nx + i) := fun n hn => by
        refine ⟨⟨hn.1, fun h => hn.2.1 (getD_set_true h), hn.2.2⟩, fun hx e => ?_⟩
        subst e
        have := hn.2.1 (by rw [Nat.add_sub_cancel_left]; exact hself)
        rw [g3] at this
        rw [this] at hx
        cases hx
      have htm2 : ∀ t, (if co.isSome = true ∧ t = dW then vW else if ((pickOps l (hd.filter (fun i => i != iw))).any fun p => p.2.dst == some t && (listed.setIfInBounds i true).getD p.1 false) = true then lkT tmF t else lkT tm0 t) = if o.dst = some t then v else (if co.isSome = true ∧ t = dW then vW else if ((pickOps l (hd.filter (fun i => i != iw))).any fun p => p.2.dst == some t && listed.getD p.1 false) = true then lkT tmF t else lkT tm0 t) := fun t => by
        by_cases hd1 : o.dst = some t
        · rw [if_pos hd1, if_neg (fun h => hd1W (by rw [← h.2]; exact hd1)), if_pos (List.any_eq_true.2 ⟨(i, o), hmem, by simp [hd1, hself]⟩), g2 t hd1]
        · rw [if_neg hd1]
          have : ((pickOps l (hd.filter (fun i => i != iw))).any fun p => p.2.dst == some t && (listed.setIfInBounds i true).getD p.1 false) = ((pickOps l (hd.filter (fun i => i != iw))).any fun p => p.2.dst == some t && listed.getD p.1 false) := by
            rw [Bool.eq_iff_iff, List.any_eq_true, List.any_eq_true]
            constructor
            · rintro ⟨p, hp, h⟩
              simp only [Bool.and_eq_true, beq_iff_eq] at h
              have hpi : p.1 ≠ i := fun e => by
                have := (pickOps_mem.1 hp).2
                rw [e, hol] at this
                injection this with this
                rw [← this] at h
                exact hd1 h.1
              rw [hoth p.1 hpi] at h
              exact ⟨p, hp, by simp [h.1, h.2]⟩
            · rintro ⟨p, hp, h⟩
              simp only [Bool.and_eq_true, beq_iff_eq] at h
              exact ⟨p, hp, by simp [h.1, getD_set_true h.2]⟩
          rw [this]
      have hLK2 : ∀ u c, co = some c → LK c (vOf B (a.put o.dst u) tA) (vOf B (a.put o.dst u) dW) := fun u c hc => by
        rw [vOf_put hGT.size hdN, vOf_put hGT.size hdN, if_neg hd1A, if_neg hd1W]
        exact hLK c hc
      unfold wpOpIn
      simp only [ho]
      cases hw : Region.wanted o (yielded l.toArray a.tmps) with
      | true =>
        rw [if_pos rfl]
        refine (h1 hw).wpIn ?_
        rintro u w' ⟨E', rfl, hS', hext, hdp, hv⟩
        exact ih co _ E' _ inv2 hT2 hcnt2 (by rw [hoiw]; exact hco) (hLK2 u) (hS'.congr hσ2 hfr2) ((hGT.ext hext hdp).putF (fun t e => ⟨hv, hdN t e⟩) htm2)
      | false =>
        rw [if_neg (by simp)]
        obtain ⟨rfl, hv⟩ := h2 hw
        have hσn : ∀ n, (if n = nx + i then none else (if n = nx + iw then co.map xW else if nx ≤ n then (if listed.getD (n - nx) false = true then lkB nbF n else none) else lkB (selS st0 st1 co) n)) = (if n = nx + iw then co.map xW else if nx ≤ n then (if listed.getD (n - nx) false = true then lkB nbF n else none) else lkB (selS st0 st1 co) n) := fun n => by
          by_cases hn : n = nx + i
          · subst hn; rw [if_pos rfl, if_neg (by omega), if_pos (by omega), Nat.add_sub_cancel_left, hiun', if_neg (by simp)]
          · rw [if_neg hn]
        exact ⟨fun _ _ => trivial, ih co _ E _ inv2 hT2 hcnt2 (by rw [hoiw]; exact hco) (hLK2 _) (hS.congr (fun n => (hσ2 n).trans (hσn n)) (fun n hn => (hfr2 n hn).1)) (hGT.putF (fun t e => ⟨hv, hdN t e⟩) htm2)⟩
end
end Go.Proofs.Ytlnkmaejiceloaa


namespace Go.Proofs.Ytlnkmaejiceloaa
set_option linter.unusedVariables false
set_option linter.unusedSimpArgs false
open Go.RowKit
section
variable {P : Program} {B : Base} {T : Tab}
def apSt (n : Nat) (st : List (Nat × Blk)) : Bool → List (Nat × Blk)
  | true => delB n st
  | false => st
def apLK (n m : Nat) : Bool → Value → Value → Prop
  | true, v, v' => InRoom n m v v'
  | false, _, _ => True
def apW (T : Tab) (o : Option Oper) (n : Nat) (tm : List (Nat × V)) (st : List (Nat × Blk)) (K : Nat → Nat → Nat → List V → List (List V) → List (List D) → Prop) : Prop := match o with
  | some o => match o.op, o.dst with
    | .call ⟨.builtin .append, asA, ts⟩, some dW => match ts.toList, asA.toList.map (ev (lkT tm)) with
      | [t, t'], [.mo m, y] => (t = t' ∧ m = n) ∧ match ty T t with
        | some ⟨.slice el, _, _, _⟩ => match ty T el, lkB st n with
          | some i, some (.row e sz d0 es) => ((0 < i.sz ∧ i.z.cells.size = i.sz) ∧ e = el ∧ sz = i.sz) ∧ apS i.sz (fun fs => (es.length + fs.length) * i.by_ ≤ 140737488355328 ∧ es.length + fs.length ≤ 140737488351232 ∧ K dW el i.sz d0 es fs) y
          | _, _ => False
        | _ => False
      | _, _ => False
    | _, _ => False
  | none => False
theorem apW_ok (hT : TabOk P T) {l : List Oper} {iw n nx tA : Nat} {tm tm0 : List (Nat × V)} {st : List (Nat × Blk)} {K : Nat → Nat → Nat → List V → List (List V) → List (List D) → Prop} (hN : (l.all (opOk B.N)) = true) (hst : ∀ m, nx ≤ m → lkB st m = none) (htA : lkT tm0 tA = .mo n) (h : apW T l[iw]? n tm st K) :
    ∃ dW el sz d0 es fs, K dW el sz d0 es fs ∧ lkB st n = some (.row el sz d0 es) ∧ n < nx ∧ (∃ o, l[iw]? = some o ∧ o.dst = some dW) ∧
      ∀ ow, l[iw]? = some ow → ∀ (tm' : Nat → V) (σ : Nat → Option Blk) (fr : Nat → Prop) (E : Env) (a : Act), GamS P B σ fr E → GamT B tm' E a → fr (nx + iw) → (∀ n, n < nx → σ n = lkB st n) → tm' tA = lkT tm0 tA → (∀ t ∈ ow.looksAt l.toArray, tm' t = lkT tm t) →
        Upon P (fun u w' => ∃ c E', E'.w = w' ∧ GamS P B (fun k => if k = nx + iw then some (.row el sz d0 (es ++ fs.map dV)) else if k < nx then lkB (apSt n st c) k else σ k) (fun k => fr k ∧ k ≠ nx + iw) E' ∧ Ext E E' ∧ E'.dp = E.dp ∧ RV E' (.mo (nx + iw)) u ∧ apLK es.length fs.length c (vOf B a tA) u) ((execOp a.eval ow).run P E.w) := by
  unfold apW at h
  split at h <;> try exact h.elim
  rename_i o hol
  split at h <;> try exact h.elim
  rename_i asA ts dW hop hdst
  split at h <;> try exact h.elim
  rename_i t t' m y hts has
  obtain ⟨⟨rfl, rfl⟩, h⟩ := h
  split at h <;> try exact h.elim
  rename_i el sz0 z0 by0 hi1
  split at h <;> try exact h.elim
  rename_i i e sz d0 es hi2 hlk
  obtain ⟨⟨⟨hpos, hzs⟩, rfl, rfl⟩, h⟩ := h
  obtain ⟨fs, ⟨hby, hmax, hK⟩, hS⟩ := apS_ok h
  have hlt : m < nx := by
    rcases Nat.lt_or_ge m nx with h | h
    · exact h
    · rw [hst m h] at hlk; cases hlk
  refine ⟨dW, e, i.sz, d0, es, fs, hK, hlk, hlt, ⟨o, hol, hdst⟩, fun ow how tm' σ fr E a hS0 hT0 hfr hσ htA' hag => ?_⟩
  rw [hol] at how
  cases how
  have hok := List.all_eq_true.1 hN o (List.mem_of_getElem? hol)
  have hm := opOk_mem hok
  obtain ⟨p, q, h1, h2, h3⟩ := args_two (c := ⟨.builtin .append, asA, ts⟩) has
  have h1 : asA.toList = [p, q] := h1
  have has' : asA = #[p, q] := by rw [← Array.toArray_toList (xs := asA), h1]
  have hts' : ts = #[t, t] := by rw [← Array.toArray_toList (xs := ts), hts]
  have hpo : p ∈ o.op.operands := by rw [hop]; simp [Op.operands, Call.operands, has']
  have hqo : q ∈ o.op.operands := by rw [hop]; simp [Op.operands, Call.operands, has']
  have rx := ev_ok hT0 p (hm p hpo)
  have ry := ev_ok hT0 q (hm q hqo)
  have rA := hT0.tm tA
  rw [ev_congr (ops := l.toArray) hag hpo, h2] at rx
  rw [ev_congr (ops := l.toArray) hag hqo, h3] at ry
  rw [htA', htA] at rA
  simp only [RV] at rx rA
  have hσm : σ m = some (.row e i.sz d0 es) := by rw [hσ m hlt, hlk]
  have hvA : vOf B a tA = a.eval p := by have := rA.1; rw [rx.1] at this; injection this with this; exact this.symm
  rw [hvA]
  obtain ⟨v1, us0, k0, k1, k2, k4, k3, _, k5⟩ := hS0.st m _ hσm
  rw [rx.1] at k0
  cases k0
  have ht := (ty_ok hT hi1).2
  have hinf := (ty_ok hT hi2).1
  simp only [kdOk] at ht
  obtain ⟨j, hj, hz, hsz, hbyt⟩ : ∃ j, P.info? e = some j ∧ j.zero = some i.z ∧ j.size = i.sz ∧ j.bytes = i.by_ := by
    cases hj : P.info? e with
    | none => rw [hj] at hinf; cases hinf
    | some j => rw [hj] at hinf; simp at hinf; exact ⟨j, rfl, hinf.2.1, hinf.1, hinf.2.2⟩
  obtain ⟨a0, c0, hv0, _⟩ := own_form k1
  have hgrow : ∃ v' w' news, (Builtin.append_ #[t, t] o.type #[a.eval p, a.eval q]).run P E.w = .ok v' w' ∧ Grew 0 e i.sz E.w (a.eval p) v' (es.length + fs.length) (us0 ++ news) w' ∧ (InRoom es.length fs.length (a.eval p) v' ∨ ((∀ k, k < E.w.heap.size → w'.heap[k]? = E.w.heap[k]?) ∧ ∀ g, v'.ownBlock = some g → E.w.heap.size ≤ g)) ∧ RDL E.F E.w fs.flatten news ∧ (∀ u ∈ news, u.oneCell' = true) ∧ ∀ x ∈ fs, x.length = i.sz := by
    rcases hS ry with ⟨c1, hu, rfl⟩ | ⟨ad, c1, news, hu, g1, g2, g3, g4, g5⟩
    · refine ⟨a.eval p, E.w, [], by rw [hu]; exact run_append_none E.w 0 t _ e j ht hj _ _ _ k1 c1, by simpa using Grew.refl k1, ?_, by simp [RDL], by simp, by simp⟩
      rcases k1.2 with ⟨e1, e2⟩ | ⟨g, cap, cur, e1, _⟩
      · exact .inr ⟨fun _ _ => rfl, fun g hg => by rw [e1] at hg; cases hg⟩
      · exact .inl ⟨g, cap, e1, by simpa using e1⟩
    · obtain ⟨v', w', r1, r2, r3⟩ := run_append_own4 (P := P) E.w t o.type e j i.z i.sz i.by_ ht hj hz hsz hbyt hzs hpos (a.eval p) es.length us0 k1 ad fs.length c1 news g2 g5 g3 (by unfold maxLen; omega) hby
      exact ⟨v', w', news, by rw [hu]; exact r1, r2, r3, g1, g3, g4⟩
  obtain ⟨v', w', news, r1, r2, r3, r4, r5, r6⟩ := hgrow
  have hrun : (execOp a.eval o).run P E.w = .ok (.value v') w' := by simp [execOp, hop, resolve, has', hts', invoke, builtin, r1]
  rw [hrun]
  simp only [Upon]
  have hnone : σ (nx + iw) = none := hS0.none_of_fresh hfr
  have hne : m ≠ nx + iw := by omega
  rcases r3 with hin | ⟨hold, hnew⟩
  · -- in its room
    have hdp : ∀ b, hb (a.eval p) = some b → E.w.heap[b]? ≠ some (.deferred (some [])) := fun b hb' => by
      rcases k1.2 with ⟨e1, _⟩ | ⟨g, cap, cur, e1, _, e3, _⟩
      · rw [e1] at hb'; cases hb'
      · rw [e1] at hb'; cases hb'; rw [e3]; simp
    obtain ⟨E', hw', hG, hE, hR, hD'⟩ := GamS.growM (d0 := d0) (σ1 := fun k => if k = m then none else σ k) (σ' := fun k => if k = nx + iw then some (.row e i.sz d0 (es ++ fs.map dV)) else if k < nx then lkB (apSt m st true) k else σ k) (fr' := fun k => fr k ∧ k ≠ nx + iw) (nx := nx + iw) (m := fs.length) hS0 hdp hfr (fun k hk => hk) (fun k => by
      by_cases hk : k = nx + iw
      · simp only [if_pos hk]
      · simp only [if_neg hk, apSt, lkB_delB]
        by_cases hkm : k = m
        · have : k < nx := by omega
          simp only [if_pos hkm, if_pos this]
        · simp only [if_neg hkm]
          by_cases hk2 : k < nx
          · rw [if_pos hk2, hσ k hk2]
          · rw [if_neg hk2])
      (fun k y hy => by
        by_cases hkm : k = m
        · rw [if_pos hkm] at hy; cases hy
        · rw [if_neg hkm] at hy
          exact ⟨hy, fun v b hvk hbk hb0 => hS0.dist k m y _ b v _ hkm hy hσm hvk rx.1 hbk hb0⟩)
      k5 r2 (ownBlock_hb hv0) rfl rfl k2 r4 k3 r5 k4 r6 hmax
    exact ⟨true, E', hw', hG, hE, hD', hR, hin⟩
  · -- elsewhere
    have hbel : Below E.w.heap.size E.w w' := ⟨r2.by_.os, r2.by_.tape, r2.by_.output, r2.by_.size, hold⟩
    have hs : HStep E (E.name (nx + iw) v' E.F w') (nx + iw) := hstep_name hbel FtNew.same
    have hext := hs.ext hS0.lt (hS0.fresh _ hfr)
    have hη : (E.name (nx + iw) v' E.F w').η (nx + iw) = some v' := by simp [Env.name]
    obtain ⟨a1, c1, hv1, _⟩ := own_form r2.own
    have hx : NewB P B E (E.name (nx + iw) v' E.F w') (nx + iw) (some (.row e i.sz d0 (es ++ fs.map dV))) := by
      refine ⟨v', hη, fun b hb' => hnew b ((ownBlock_hb hv1).trans hb'), v', us0 ++ news, hη, by rw [List.length_append, List.length_map]; exact r2.own, ?_, fun x hx => ?_, fun u hu => (List.mem_append.1 hu).elim (k3 u) (r5 u), by rw [List.length_append, List.length_map]; exact hmax, fun b hb' => ?_⟩
      · rw [List.flatten_append, dV_flat]
        refine RVL.append (RVL.mono hext _ _ k2) (RVL.of_data ?_)
        exact RDL.mono hext.F hext.k _ _ r4
      · rcases List.mem_append.1 hx with hx | hx
        · exact k4 x hx
        · obtain ⟨y, hy, rfl⟩ := List.mem_map.1 hx
          simpa [dV] using r6 y hy
      · have hge := hnew b ((ownBlock_hb hv1).trans hb')
        refine ⟨.inl (Nat.le_trans hS0.size hge), (r2.own.lt b ((ownBlock_hb hv1).trans hb')).2, fun hm => ?_, fun o ho' => ?_⟩
        · have := (hS0.Fm b hm).2; omega
        · have := (hS0.Fc b o ho').2; omega
    refine ⟨false, E.name (nx + iw) v' E.F w', rfl, hS0.head (σ' := fun k => if k = nx + iw then some (.row e i.sz d0 (es ++ fs.map dV)) else if k < nx then lkB (apSt m st false) k else σ k) (fr' := fun k => fr k ∧ k ≠ nx + iw) hs hx hfr (fun k => ?_) hnone (fun k hk => ⟨hk.1, fun _ => hk.2⟩), hext, rfl, ?_, trivial⟩
    · by_cases hk : k = nx + iw
      · simp only [if_pos hk]
      · simp only [if_neg hk, apSt]
        by_cases hk2 : k < nx
        · rw [if_pos hk2, hσ k hk2]
        · rw [if_neg hk2]
    · simp only [RV]
      exact ⟨hη, a1, _, c1, hv1⟩
def backK (n n' tA dW el sz : Nat) (d0 : List V) (es fs : List (List V)) (K : St → Prop) : Bool → St → Prop
  | true, s => (lkT s.tm tA = .mo n ∧ lkT s.tm dW = .mo n' ∧ lkB s.st n' = some (.row el sz d0 (es ++ fs))) ∧ K ⟨s.tm, (n, .row el sz d0 es) :: delB n' s.st, s.nx⟩
  | false, s => K ⟨s.tm, delB n' s.st, s.nx⟩
def tailW (P : Program) (B : Base) (T : Tab) (ops : Array Oper) (tA dW : Nat) : List Oper → St → (Bool → (St → Prop) → St → Prop) → (St → Prop) → Bool → Prop
  | o :: rest, s, back, K, c => match o.guard, o.op, o.dst with
    | none, .call ⟨.value (.tmp t), asA, _⟩, some d => (d ≠ tA ∧ d ≠ dW) ∧ slotK P B (lkT s.tm t) (asA.toList.map (ev (lkT s.tm))) (some d) s (back c (fun s' => rwp P B T ops rest s' K))
    | _, _, _ => False
  | [], _, _, _, _ => False
theorem wpIn_put {r : Option Nat} {o : Oper} {a : Act} {w : World} {N : Act → World → Prop} {Q : Exit → Act → World → Prop} (h : o.wpIn (fen r) 0 P a w (fun a' w' => (∃ u, a'.tmps = (a.put o.dst u).tmps) → N a' w') Q) : o.wpIn (fen r) 0 P a w N Q := by
  unfold Oper.wpIn at *
  refine ⟨h.1, ?_⟩
  have hh := h.2
  generalize (o.semAt (fen r).round a.eval).run P w = x at *
  cases x with
  | ok x w' =>
    cases x <;> simp only [Oper.uponIn] at hh ⊢ <;>
      first
        | exact hh ⟨_, rfl⟩
        | exact hh ⟨undef, by cases o.dst <;> rfl⟩
        | exact ⟨hh.1, CallsIn.mono hh.2 (fun e w'' he => by cases e <;> first | exact he ⟨_, rfl⟩ | exact he)⟩
        | exact ⟨hh.1, RowsIn.mono hh.2 (fun _ _ he => he ⟨_, rfl⟩)⟩
        | exact ⟨hh.1, RoundIn.mono hh.2 (fun e w'' he => by cases e <;> first | exact he ⟨_, rfl⟩ | exact he)⟩
  | halt x w' => cases x <;> simp only [Oper.uponIn] at hh ⊢ <;> exact hh
theorem tailW_ok (hT : TabOk P T) {ops : Array Oper} (hops : ∀ o ∈ ops.toList, opOk B.N o = true) {l : List Oper} (hl : (l.all (opOk B.N)) = true) {tA dW : Nat} {s : St} {n n' el sz : Nat} {d0 : List V} {es fs : List (List V)} {K : St → Prop} {c : Bool} (hn : n ≠ n')
    (h : tailW P B T ops tA dW l s (fun c K => backK n n' tA dW el sz d0 es fs K c) K c) {Q : Exit → Act → World → Prop} (hQ : ∀ s', K s' → ∀ E a, Gam P B s' E a → Q .normal a E.w) (E : Env) (a : Act) (hG : Gam P B s E a) (hL : apLK es.length fs.length c (vOf B a tA) (vOf B a dW)) : wpListIn (fen B.r) 0 P ops Q l a E.w := by
  cases l with
  | nil => exact h.elim
  | cons o rest =>
  simp only [tailW] at h
  split at h <;> try exact h.elim
  rename_i t asA ts d hg hop hdst
  obtain ⟨⟨hd1, hd2⟩, h⟩ := h
  simp only [List.all_cons, Bool.and_eq_true] at hl
  have hm := opOk_mem hl.1
  have hev : ∀ E a, Gam P B s E a → ∀ y ∈ o.op.operands, RV E (ev (lkT s.tm) y) (a.eval y) := fun E a hG y hy => ev_ok hG.2 y (hm y hy)
  have hdN : d < B.N := by
    have := hl.1
    simp only [opOk, Bool.and_eq_true, hdst, decide_eq_true_eq] at this
    exact this.2
  have hw : Region.wanted o (yielded ops a.tmps) = true := by simp [Region.wanted, hg]
  -- the call leaves the values of tA and dW as they are
  have hrest : ∀ s', backK n n' tA dW el sz d0 es fs (fun s' => rwp P B T ops rest s' K) c s' → ∀ E' a', Gam P B s' E' a' → (∃ u, a'.tmps = (a.put (some d) u).tmps) → wpListIn (fen B.r) 0 P ops Q rest a' E'.w := fun s' hb E' a' hG' ⟨u, hu⟩ => by
    have hput : ∀ t, t ≠ d → vOf B a' t = vOf B a t := fun t ht => by
      have e1 : vOf B a' t = vOf B (a.put (some d) u) t := by unfold vOf; rw [hu]
      rw [e1, vOf_put hG.2.size (fun t e => by cases e; exact hdN), if_neg (fun e => ht (by injection e with e; exact e.symm))]
    cases c with
    | true =>
      obtain ⟨⟨b1, b2, b4⟩, hk⟩ := hb
      refine rwp_list hT hops rest _ _ hl.2 hk hQ E' _ (gam_back b4 hn b1 b2 ?_ hG')
      rw [hput tA (Ne.symm hd1), hput dW (Ne.symm hd2)]
      exact hL
    | false =>
      exact rwp_list hT hops rest _ _ hl.2 hb hQ E' _ (gam_less (s := s') (s1 := ⟨s'.tm, delB n' s'.st, s'.nx⟩) (fun t => .inl rfl) (fun k x hx => delB_get (m := n') hx) (Nat.le_refl _) hG')
  unfold wpListIn
  rw [if_pos hw]
  refine wpIn_put ?_
  refine slot_ok (P := P) (B := B) (o := o) (s := s) (K := fun s' => backK n n' tA dW el sz d0 es fs (fun s' => rwp P B T ops rest s' K) c s') (Q := Q) hop (fun E a hG => hev E a hG (.tmp t) (by simp [hop, Op.operands, Call.operands])) (fun E a hG => RVL.of_forall _ (fun x hx => hev E a hG x (by simp only [hop, Op.operands, Call.operands]; simp [Array.mem_toList_iff.1 hx]))) (by rw [hdst]; exact h) (fun s' E' a' hK hG' hu => hrest s' hK E' a' hG' (by rw [hdst] at hu; exact hu)) E a hG
theorem aw_drawnW (iw tA dW n : Nat) (hd tl : List Nat) {id : Nat} {ops : Array Oper} {s : St} {Q : AQ} (hT : TabOk P T) (hm : P.follows .mixedOrders = true) (hl : (ops.toList.all (opOk B.N)) = true) (hok : drawOkW ops.toList (iw :: hd) tl iw tA dW = true)
    (hh : (iw :: hd).filter (fun i => i != iw) = hd) (htA : lkT s.tm tA = .mo n)
    (h : hwp P T ops (delB n s.st) s.nx (pickOps ops.toList hd) s.tm [] (fin2 (fun tm nb => apW T ops.toList[iw]? n tm s.st (fun dW' el sz d0 es fs => dW' = dW ∧ ∀ c, tailW P B T ops tA dW ((pickOps ops.toList tl).map (·.2)) ⟨(dW, .mo (s.nx + iw)) :: tm, (s.nx + iw, .row el sz d0 (es ++ fs.map dV)) :: (nb ++ apSt n s.st c), s.nx + ops.toList.length⟩ (fun c K => backK n (s.nx + iw) tA dW el sz d0 es (fs.map dV) K c) (Q .normal) c)) ⟨⟩)) : AW P B (.region id ops true) Q ⟨⟩ s := fun E a hG => by
  obtain ⟨l, rfl⟩ : ∃ l : List Oper, ops = l.toArray := ⟨ops.toList, by simp⟩
  simp only [List.toList_toArray] at hl hok hh h
  have hops0 : ∀ o ∈ l.toArray.toList, opOk B.N o = true := fun o ho => List.all_eq_true.1 hl o (by simpa using ho)
  have hc : ((pickOps l hd).all fun p => p.2.op.operands.toList.all (constOk B.N)) = true := List.all_eq_true.2 fun p hp => by
    have := List.all_eq_true.1 hl p.2 (List.mem_of_getElem? (pickOps_mem.1 hp).2)
    simp only [opOk, Bool.and_eq_true] at this
    exact this.1
  obtain ⟨tmF, nbF, hK, hrun⟩ := hwp_ok (B := B) hT hops0 _ _ _ hc h
  have hG' := gam_drew hG
  have hst0 : ∀ n, s.nx ≤ n → lkB s.st n = none := fun n hn => hG.1.none_of_fresh hn
  unfold fin2 at hK
  obtain ⟨dW', el, sz, d0, es, fs, ⟨rfl, hKt⟩, hlk, hlt, ⟨o, ho, hod⟩, hwr⟩ := apW_ok (B := B) (tm0 := s.tm) (tA := tA) hT hl hst0 htA hK
  refine wpIn_region_any hm ?_
  have htail : ((pickOps l tl).map (·.2)).all (opOk B.N) = true := List.all_eq_true.2 fun o ho => by
    obtain ⟨p, hp, rfl⟩ := List.mem_map.1 ho
    exact List.all_eq_true.1 hl p.2 (List.mem_of_getElem? (pickOps_mem.1 hp).2)
  have hlen : (iw :: hd).length + tl.length = l.length := by
    simp only [drawOkW, Bool.and_eq_true, decide_eq_true_eq] at hok
    exact hok.1.1.1.1.2
  rw [← hh] at hrun
  have := wpAny_headsW (Q := AQQ P B Q) (ι := Bool) (LK := fun c v u => apLK es.length (fs.map dV).length c v u) (st1 := apSt n s.st) (xW := fun _ => .row el sz d0 (es ++ fs.map dV)) (vW := .mo (s.nx + iw)) hok hrun hl hst0
    (fun c m hm => by
      cases c with
      | true => rw [apSt, lkB_delB]; split; rfl; exact hst0 m hm
      | false => exact hst0 m hm)
    (fun m b hb => delB_get hb)
    (fun c m b hb => by
      cases c with
      | true => exact hb
      | false => exact delB_get hb)
    (by simpa only [List.length_map] using hwr)
    (fun c E a hG hL => tailW_ok hT hops0 htail (by omega) (hKt c) (fun s' hs E a hG => ⟨E, s', rfl, hG, hs⟩) E a hG hL) (iw :: hd).length none (Array.replicate l.toArray.size false) ⟨E.η, E.F, { E.w with drawn := E.w.drawn + 1 }, E.dp⟩ a
    ⟨by simp, fun j oj _ hl => (by rw [getD_replicate_false] at hl; cases hl)⟩ (fun t _ => getD_replicate_false _ _) (by
      rw [List.countP_eq_length]; intro i _; rw [getD_replicate_false]; rfl) (by rw [getD_replicate_false]; rfl) (fun c hc => by cases hc)
    (hG'.1.congr (fun m => by
      rw [getD_replicate_false]
      by_cases hmw : m = s.nx + iw
      · rw [if_pos hmw, hst0 m (by omega)]; rfl
      · rw [if_neg hmw]
        by_cases hn : s.nx ≤ m
        · rw [if_pos hn, if_neg (by simp), hst0 m hn]
        · rw [if_neg hn]; rfl) (fun n hn => hn.1))
    ⟨fun t => by
      have : ((pickOps l ((iw :: hd).filter (fun i => i != iw))).any fun p => p.2.dst == some t && (Array.replicate l.toArray.size false).getD p.1 false) = false := by
        rw [List.any_eq_false]; intro p _; rw [getD_replicate_false]; simp
      rw [this, if_neg (fun h => by cases h.1), if_neg (by simp)]
      exact hG'.2.tm t, hG'.2.defers, hG'.2.size⟩
  rw [hlen] at this
  simpa using this
end
end Go.Proofs.Ytlnkmaejiceloaa

