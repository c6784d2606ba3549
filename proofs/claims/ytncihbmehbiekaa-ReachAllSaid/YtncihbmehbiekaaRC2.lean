import Derived.Test.YtncihbmehbiekaaRC1
import Derived.Laws.StructEq
import Derived.WideKeyPair
import Derived.Maps.Keyed
import Derived.Scope
import Derived.Test.YtncihbmehbiekaaProg
import Derived.Maps.RangeRun
namespace Go.Proofs.Ytncihbmehbiekaa
set_option linter.unusedVariables false
set_option linter.unusedSimpArgs false
open Go.RowKit
section
variable {P : Program}
/-- an append of cells; the old row's block is as it was, if the new row is not in it -/
theorem run_append_own3 (w : World) (base : Nat) (t ty e : TypeId) (i : TypeInfo) (z : Value) (size bytes : Nat) (ht : P.underlying t = some (.slice e)) (hi : P.info? e = some i) (hz : i.zero = some z)
    (hsize : i.size = size) (hby : i.bytes = bytes) (hzs : z.cells.size = size) (hsz : 0 < size)
    (v : Value) (n : Nat) (xs : List Value) (hown : w.ownsRow base e size v n xs)
    (a : Addr) (m c : Nat) (news : List Value) (hl : news.length = m * size) (hnews : ∀ j u, news[j]? = some u → w.cell? (a.add j) = some u) (h1 : ∀ u ∈ news, u.oneCell' = true)
    (h63 : n + m ≤ maxLen) (hbytes : (n + m) * bytes ≤ 140737488355328) (hbase : base ≤ w.heap.size) :
    ∃ v' w', (Builtin.append_ #[t, t] ty #[v, .slice (some a) m c]).run P w = .ok v' w' ∧ Grew base e size w v v' (n + m) (xs ++ news) w' ∧ ∀ g, v.ownBlock = some g → v'.ownBlock = some g ∨ w'.heap[g]? = w.heap[g]? := by
  obtain ⟨v', w', hr, h2⟩ := run_append_own2 (P := P) w base t ty e i z size bytes ht hi hz hsize hby hzs hsz v n xs hown a m c news hl hnews h1 h63 hbytes hbase
  refine ⟨v', w', hr, h2, fun g hg => ?_⟩
  subst hsize
  subst hby
  have hsmall : n + m ≤ 9223372036854775807 := by simp only [maxLen] at h63; omega
  have hlt := hown.lt g hg
  rcases hown.2 with ⟨rfl, rfl⟩ | ⟨g0, cap, cur, rfl, hbg, hg0, hnc, hcm, hcs, htake⟩
  · cases hg
  · by_cases hroom : n + m ≤ cap
    · have hfit : n * i.size + news.length ≤ cur.size := by rw [hl, hcs, ← Nat.add_mul]; exact Nat.mul_le_mul_right _ hroom
      have hr2 := run_append_room (P := P) w t ty e i ht hi g0 n cap cur hg0 a m c news hl hnews h1 hroom hfit
      rw [hr2] at hr
      injection hr with e1 e2
      subst e1
      exact .inl hg
    · have hr2 := run_append_grow (P := P) w t ty e i z ht hi hz ⟨g0, 0, none⟩ n cap xs hown.1 (hown.cells (g := g0) rfl) a m c news hl hnews (by omega) (by omega) (growslice_fits (by omega) hbytes)
      rw [hr2] at hr
      injection hr with e1 e2
      subst e2
      exact .inr (Below.heap_alloc w.drew _ g hlt.2)
theorem run_append_none (w : World) (base : Nat) (t ty e : TypeId) (i : TypeInfo) (ht : P.underlying t = some (.slice e)) (hi : P.info? e = some i) (v : Value) (n : Nat) (xs : List Value) {size : Nat} (hown : w.ownsRow base e size v n xs) (c : Nat) :
    (Builtin.append_ #[t, t] ty #[v, .slice none 0 c]).run P w = .ok v w := by
  rcases hown.2 with ⟨rfl, rfl⟩ | ⟨g, cap, cur, rfl, _, _, hnc, _⟩
  · simp [Builtin.append_, run_underlying ht, sizeOf, typeInfo, hi, Builtin.lenOf, Builtin.firstCells]
  · simp [Builtin.append_, run_underlying ht, sizeOf, typeInfo, hi, Builtin.lenOf, Builtin.firstCells, hnc, storeCells]
theorem ownBlock_hb {v : Value} {a : Option Addr} {n c : Nat} (h : v = .slice a n c) : v.ownBlock = hb v := by subst h; cases a <;> rfl
/-- an own row's cells -/
theorem own_cells {F : Ft} {w : World} {e : TypeId} {sz : Nat} {d0 : List D} {es : List (List D)} {v : Value} {us : List Value} (h : RD F w (.sl sz d0 es) v) (ho : w.ownsRow 0 e sz v es.length us) : RDL F w es.flatten us ∧ (∀ u ∈ us, u.oneCell' = true) ∧ (∀ x ∈ es, x.length = sz) ∧
    ∀ g, v.ownBlock = some g → ∀ o, o < es.length * sz → F.c g o := by
  simp only [RD] at h
  obtain ⟨a, cap, hv, _, _, hr⟩ := h
  rcases ho.2 with ⟨rfl, h0⟩ | ⟨g, cap', cur, rfl, _, hg, _⟩
  · have : es = [] := List.eq_nil_of_length_eq_zero h0
    subst this
    have : us = [] := List.eq_nil_of_length_eq_zero (by simpa using ho.1)
    subst this
    exact ⟨by simp [RDL], by simp, by simp, fun g hg => by cases hg⟩
  · cases hv
    obtain ⟨vs, h1, h2, h3, h4, h5⟩ := hr.cells
    have hc := fun j u => ho.cells (g := g) rfl j u
    have hl := ho.1
    have : us = vs := by
      refine List.ext_getElem? fun k => ?_
      by_cases hk : k < es.length * sz
      · have e1 : us[k]? = some us[k] := List.getElem?_eq_getElem (by omega)
        have e2 : vs[k]? = some vs[k] := List.getElem?_eq_getElem (by omega)
        have c1 := hc _ _ e1
        have c2 := (h5 _ _ e2).2
        rw [Addr.add_any] at c1
        simp only [Nat.zero_add] at c1 c2
        rw [c1] at c2
        rw [e1, e2, c2]
      · rw [List.getElem?_eq_none (by omega), List.getElem?_eq_none (by omega)]
    subst this
    refine ⟨h1, h3, h4, fun g' hg' o ho' => ?_⟩
    cases hg'
    have e2 : us[o]? = some us[o] := List.getElem?_eq_getElem (by omega)
    simpa using (h5 _ _ e2).1
/-- the row v0 has grown into v' -/
theorem GamS.grow {B : Base} {E : Env} {σ σ1 σ' : Nat → Option Blk} {fr fr' : Nat → Prop} {nx : Nat} {el sz : Nat} {v0 v' : Value} {n m : Nat} {us0 news : List Value} {w' : World} {d0 : List D} {es fs : List (List D)}
    (h : GamS P B σ fr E) (hdp : ∀ b, hb v0 = some b → E.w.heap[b]? ≠ some (.deferred (some []))) (hnx : fr nx) (hfr : ∀ k, fr' k → fr k ∧ k ≠ nx) (hσ : ∀ k, σ' k = if k = nx then some (.tok el sz (es.length + fs.length)) else σ1 k) (h1 : ∀ k y, σ1 k = some y → σ k = some y ∧ ∀ v b, E.η k = some v → hb v = some b → hb v0 ≠ some b) (hσn : σ1 nx = none)
    (hok : ∀ b, hb v0 = some b → okB B E b (fun o => o < n * sz)) (hg : Grew 0 el sz E.w v0 v' (n + m) (us0 ++ news) w') (hkeep : ∀ g, v0.ownBlock = some g → v'.ownBlock = some g ∨ w'.heap[g]? = E.w.heap[g]?) (hv0 : v0.ownBlock = hb v0)
    (hn : n = es.length) (hm : m = fs.length) (hus : us0.length = n * sz) (hcells : ∀ g, hb v0 = some g → ∀ j u, us0[j]? = some u → E.w.cell? ⟨g, j, none⟩ = some u) (hd1 : RDL E.F E.w es.flatten us0) (hd2 : RDL E.F E.w fs.flatten news) (ho1 : ∀ u ∈ us0, u.oneCell' = true) (ho2 : ∀ u ∈ news, u.oneCell' = true) (hl1 : ∀ x ∈ es, x.length = sz) (hl2 : ∀ x ∈ fs, x.length = sz) (hmax : es.length + fs.length ≤ 140737488351232) :
    ∃ E', E'.w = w' ∧ GamS P B σ' fr' E' ∧ Ext E E' ∧ RV E' (.ow nx sz d0 (es ++ fs)) v' ∧ E'.dp = E.dp := by
  obtain ⟨av, cv, hv', hcv⟩ := own_form hg.own
  have hvb : v'.ownBlock = hb v' := ownBlock_hb hv'
  have hnew : ∀ b, hb v' = some b → (E.w.heap.size ≤ b ∨ hb v0 = some b) ∧ b < w'.heap.size := fun b hb' => by
    have h3 := hg.new b (hvb.trans hb')
    have h4 := hg.own.lt b (hvb.trans hb')
    rw [hv0] at h3
    exact ⟨h3, h4.2⟩
  have hsame : ∀ b, b < E.w.heap.size → hb v0 ≠ some b → w'.heap[b]? = E.w.heap[b]? := fun b hb1 hb2 => hg.other hb1 (by rw [hv0]; exact hb2)
  have hsize := hg.by_.size
  have hown := hg.own
  have hcell' : ∀ g, hb v' = some g → ∀ j u, (us0 ++ news)[j]? = some u → w'.cell? ⟨g, j, none⟩ = some u := fun g hg' j u hj => by
    have := hown.cells (g := g) (hvb.trans hg') j u hj
    rwa [Addr.add_any, Nat.zero_add] at this
  let F' : Ft := ⟨fun b o => E.F.c b o ∨ (hb v' = some b ∧ o < (es.length + fs.length) * sz), E.F.m⟩
  have hF : E.F.le F' := ⟨fun _ _ h => .inl h, fun _ h => h⟩
  have hkp : Kp E.F E.w w' := by
    refine ⟨fun b o u hf hu => ?_, fun b hf => hsame b (h.Fm b hf).2 (fun e => (hok b e).2.2.1 hf)⟩
    have hlt := (h.Fc b o hf).2
    by_cases hb0 : hb v0 = some b
    · have ho := (hok b hb0).2.2.2 o hf
      rcases hkeep b (hv0.trans hb0) with h3 | h3
      · have e1 : us0[o]? = some us0[o] := List.getElem?_eq_getElem (by omega)
        have c1 := hcells b hb0 o _ e1
        rw [hu] at c1
        injection c1 with c1
        have e2 : (us0 ++ news)[o]? = some us0[o] := by rw [List.getElem?_append_left (by omega)]; exact e1
        rw [c1]
        exact hcell' b (by rw [← hvb]; exact h3) o _ e2
      · exact cell_kept h3 hu
    · exact cell_kept (hsame b hlt hb0) hu
  let E' : Env := ⟨fun k => if k = nx then some v' else E.η k, F', w', E.dp⟩
  have hηn : E'.η nx = some v' := by simp [E']
  have hηo : ∀ k, k ≠ nx → E'.η k = E.η k := fun k hk => by simp [E', hk]
  have hext : Ext E E' := ⟨fun k v hv => by
    by_cases hk : k = nx
    · subst hk; rw [h.fresh k hnx] at hv; cases hv
    · rw [hηo k hk]; exact hv, hF, hkp⟩
  have hRD : RD F' w' (.sl sz d0 (es ++ fs)) v' := by
    simp only [RD]
    refine ⟨av, cv, by rw [hv', hn, hm, List.length_append], by rw [List.length_append]; omega, by rw [List.length_append]; omega, ?_⟩
    rcases hown.2 with ⟨h3, h4⟩ | ⟨g, cap, cur, h3, _⟩
    · have : es ++ fs = [] := List.eq_nil_of_length_eq_zero (by rw [List.length_append]; omega)
      rw [this]; simp [RR]
    · have hav : av = some ⟨g, 0, none⟩ := by rw [hv'] at h3; cases h3; rfl
      subst hav
      refine RR.of_cells (us := us0 ++ news) (by rw [List.flatten_append]; exact RDL.append (RDL.mono hF hkp _ _ hd1) (RDL.mono hF hkp _ _ hd2)) (fun x hx => (List.mem_append.1 hx).elim (hl1 x) (hl2 x)) (fun u hu => (List.mem_append.1 hu).elim (ho1 u) (ho2 u)) (fun j u hj => ?_)
      have hbv : hb v' = some g := by rw [h3]; rfl
      have hjl := (List.getElem?_eq_some_iff.1 hj).1
      have hnl : (us0 ++ news).length = (es.length + fs.length) * sz := by
        have := hown.1
        rw [this, hn, hm]
      simp only [Nat.zero_add]
      exact ⟨.inr ⟨hbv, by omega⟩, hcell' g hbv j u hj⟩
  have hokNew : ∀ b, hb v' = some b → okB B E' b (fun o => o < (es.length + fs.length) * sz) := fun b hb' => by
    obtain ⟨h3, h4⟩ := hnew b hb'
    refine ⟨?_, h4, ?_, fun o ho => ?_⟩
    · rcases h3 with h3 | h3
      · exact .inl (Nat.le_trans h.size h3)
      · exact (hok b h3).1
    · rcases h3 with h3 | h3
      · exact fun hm' => by have := (h.Fm b hm').2; omega
      · exact (hok b h3).2.2.1
    · rcases ho with ho | ho
      · rcases h3 with h3 | h3
        · have := (h.Fc b o ho).2; omega
        · have := (hok b h3).2.2.2 o ho
          have h6 : n * sz ≤ (es.length + fs.length) * sz := Nat.mul_le_mul_right _ (by omega)
          omega
      · exact ho.2
  refine ⟨E', rfl, ⟨hg.by_.os.trans h.os, hg.by_.tape.trans h.tape, hg.by_.output.trans h.output, Nat.le_trans h.size hsize, fun b hb1 hS => ?_, Ft.le_trans h.F0 hF, fun b o hc => ?_, fun b hc => ?_, fun k y hy => ?_, ?_, fun k hk => ?_, fun D hD => ?_⟩, hext, by simp only [RV]; exact ⟨hηn, hRD⟩, rfl⟩
  · have := hsame b (Nat.lt_of_lt_of_le hb1 h.size) (fun e => by rcases (hok b e).1 with h6 | h6; omega; exact hS h6)
    exact this.trans (h.old b hb1 hS)
  · rcases hc with hc | hc
    · have := h.Fc b o hc; exact ⟨this.1, Nat.lt_of_lt_of_le this.2 hsize⟩
    · obtain ⟨h3, h4⟩ := hnew b hc.1
      refine ⟨?_, h4⟩
      rcases h3 with h3 | h3
      · exact .inr (.inl (Nat.le_trans h.size h3))
      · exact .inr ((hok b h3).1)
  · have := h.Fm b hc; exact ⟨this.1, Nat.lt_of_lt_of_le this.2 hsize⟩
  · rw [hσ] at hy
    by_cases hk : k = nx
    · subst hk
      rw [if_pos rfl] at hy
      cases hy
      exact ⟨v', us0 ++ news, hηn, by rw [← hn, ← hm]; exact hown, hokNew⟩
    · rw [if_neg hk] at hy
      obtain ⟨h3, h4⟩ := h1 k y hy
      have hst := h.st k y h3
      refine hst.keep (fun v hv => by rw [hηo k hk]; exact hv) hext hsize (fun v b hv hb' hlt => hsame b hlt (h4 v b hv hb')) (fun v b p hv hb' hok' => ⟨hok'.1, Nat.lt_of_lt_of_le hok'.2.1 hsize, hok'.2.2.1, fun o ho => ?_⟩)
      rcases ho with ho | ho
      · exact hok'.2.2.2 o ho
      · rcases (hnew b ho.1).1 with h5 | h5
        · have := hok'.2.1; omega
        · exact (h4 v b hv hb' h5).elim
  · intro i j p q b v u hij hp hq hv hu hbv hbu
    rw [hσ] at hp hq
    by_cases hi : i = nx
    · subst hi
      have hj : j ≠ i := fun e => hij e.symm
      rw [if_neg hj] at hq
      rw [hηn] at hv
      cases hv
      rw [hηo j hj] at hu
      obtain ⟨h3, h4⟩ := h1 j q hq
      rcases (hnew b hbv).1 with h5 | h5
      · obtain ⟨pp, hok'⟩ := (h.st j q h3).blk hu hbu
        have := hok'.2.1; omega
      · exact h4 u b hu hbu h5
    · rw [if_neg hi] at hp
      rw [hηo i hi] at hv
      obtain ⟨h3, h4⟩ := h1 i p hp
      by_cases hj : j = nx
      · subst hj
        rw [hηn] at hu
        cases hu
        rcases (hnew b hbu).1 with h5 | h5
        · obtain ⟨pp, hok'⟩ := (h.st i p h3).blk hv hbv
          have := hok'.2.1; omega
        · exact h4 v b hv hbv h5
      · rw [if_neg hj] at hq
        rw [hηo j hj] at hu
        exact h.dist i j p q b v u hij h3 (h1 j q hq).1 hv hu hbv hbu
  · obtain ⟨h3, h4⟩ := hfr k hk
    rw [hηo k h4]; exact h.fresh k h3
  · obtain ⟨d1, d2, d3, d4⟩ := h.dp D hD
    have hlt := (Array.getElem?_eq_some_iff.1 d1).1
    have hne : hb v0 ≠ some D := fun e => hdp D e d1
    refine ⟨(hsame D hlt hne).trans d1, d2, d3, fun o ho => ?_⟩
    rcases ho with ho | ho
    · exact d4 o ho
    · rcases (hnew D ho.1).1 with h5 | h5
      · omega
      · exact hne h5
/-- .. a row that is written: its cells are not among the data -/
theorem GamS.growM {B : Base} {E : Env} {σ σ1 σ' : Nat → Option Blk} {fr fr' : Nat → Prop} {nx : Nat} {el sz : Nat} {v0 v' : Value} {n m : Nat} {us0 news : List Value} {w' : World} {d0 : List V} {es : List (List V)} {fs : List (List D)}
    (h : GamS P B σ fr E) (hdp : ∀ b, hb v0 = some b → E.w.heap[b]? ≠ some (.deferred (some []))) (hnx : fr nx) (hfr : ∀ k, fr' k → fr k ∧ k ≠ nx) (hσ : ∀ k, σ' k = if k = nx then some (.row el sz d0 (es ++ fs.map dV)) else σ1 k) (h1 : ∀ k y, σ1 k = some y → σ k = some y ∧ ∀ v b, E.η k = some v → hb v = some b → hb v0 ≠ some b)
    (hok : ∀ b, hb v0 = some b → okB B E b (fun _ => False)) (hg : Grew 0 el sz E.w v0 v' (n + m) (us0 ++ news) w') (hv0 : v0.ownBlock = hb v0)
    (hn : n = es.length) (hm : m = fs.length) (hd1 : RVL E es.flatten us0) (hd2 : RDL E.F E.w fs.flatten news) (ho1 : ∀ u ∈ us0, u.oneCell' = true) (ho2 : ∀ u ∈ news, u.oneCell' = true) (hl1 : ∀ x ∈ es, x.length = sz) (hl2 : ∀ x ∈ fs, x.length = sz) (hmax : es.length + fs.length ≤ 140737488351232) :
    ∃ E', E'.w = w' ∧ GamS P B σ' fr' E' ∧ Ext E E' ∧ RV E' (.mo nx) v' ∧ E'.dp = E.dp := by
  obtain ⟨av, cv, hv', hcv⟩ := own_form hg.own
  have hvb : v'.ownBlock = hb v' := ownBlock_hb hv'
  have hnew : ∀ b, hb v' = some b → (E.w.heap.size ≤ b ∨ hb v0 = some b) ∧ b < w'.heap.size := fun b hb' => by
    have h3 := hg.new b (hvb.trans hb')
    have h4 := hg.own.lt b (hvb.trans hb')
    rw [hv0] at h3
    exact ⟨h3, h4.2⟩
  have hsame : ∀ b, b < E.w.heap.size → hb v0 ≠ some b → w'.heap[b]? = E.w.heap[b]? := fun b hb1 hb2 => hg.other hb1 (by rw [hv0]; exact hb2)
  have hsize := hg.by_.size
  have hown := hg.own
  have hkp : Kp E.F E.w w' := by
    refine ⟨fun b o u hf hu => ?_, fun b hf => hsame b (h.Fm b hf).2 (fun e => (hok b e).2.2.1 hf)⟩
    exact cell_kept (hsame b (h.Fc b o hf).2 (fun e => (hok b e).2.2.2 o hf)) hu
  let E' : Env := ⟨fun k => if k = nx then some v' else E.η k, E.F, w', E.dp⟩
  have hηn : E'.η nx = some v' := by simp [E']
  have hηo : ∀ k, k ≠ nx → E'.η k = E.η k := fun k hk => by simp [E', hk]
  have hext : Ext E E' := ⟨fun k v hv => by
    by_cases hk : k = nx
    · subst hk; rw [h.fresh k hnx] at hv; cases hv
    · rw [hηo k hk]; exact hv, Ft.le_refl _, hkp⟩
  have hokNew : ∀ b, hb v' = some b → okB B E' b (fun _ => False) := fun b hb' => by
    obtain ⟨h3, h4⟩ := hnew b hb'
    refine ⟨?_, h4, ?_, fun o ho => ?_⟩
    · rcases h3 with h3 | h3
      · exact .inl (Nat.le_trans h.size h3)
      · exact (hok b h3).1
    · rcases h3 with h3 | h3
      · exact fun hm' => by have := (h.Fm b hm').2; omega
      · exact (hok b h3).2.2.1
    · rcases h3 with h3 | h3
      · have := (h.Fc b o ho).2; omega
      · exact (hok b h3).2.2.2 o ho
  have hcells : RVL E' (es ++ fs.map dV).flatten (us0 ++ news) := by
    have e1 : (es ++ fs.map dV).flatten = es.flatten ++ dV fs.flatten := by
      rw [List.flatten_append]
      congr 1
      clear hm hd2 hl2 hmax hσ
      induction fs with
      | nil => rfl
      | cons f fs ih => rw [List.map_cons, List.flatten_cons, List.flatten_cons, ih]; simp [dV]
    rw [e1]
    exact RVL.append (RVL.mono hext _ _ hd1) (RVL.of_data (RDL.mono (Ft.le_refl _) hkp _ _ hd2))
  refine ⟨E', rfl, ⟨hg.by_.os.trans h.os, hg.by_.tape.trans h.tape, hg.by_.output.trans h.output, Nat.le_trans h.size hsize, fun b hb1 hS => ?_, h.F0, fun b o hc => ?_, fun b hc => ?_, fun k y hy => ?_, ?_, fun k hk => ?_, fun D hD => ?_⟩, hext, by simp only [RV]; exact ⟨hηn, av, _, cv, hv'⟩, rfl⟩
  · have := hsame b (Nat.lt_of_lt_of_le hb1 h.size) (fun e => by rcases (hok b e).1 with h6 | h6; omega; exact hS h6)
    exact this.trans (h.old b hb1 hS)
  · have := h.Fc b o hc; exact ⟨this.1, Nat.lt_of_lt_of_le this.2 hsize⟩
  · have := h.Fm b hc; exact ⟨this.1, Nat.lt_of_lt_of_le this.2 hsize⟩
  · rw [hσ] at hy
    by_cases hk : k = nx
    · subst hk
      rw [if_pos rfl] at hy
      cases hy
      refine ⟨v', us0 ++ news, hηn, by rw [List.length_append, List.length_map, ← hn, ← hm]; exact hown, hcells, fun x hx => ?_, fun u hu => (List.mem_append.1 hu).elim (ho1 u) (ho2 u), by rw [List.length_append, List.length_map]; omega, hokNew⟩
      rcases List.mem_append.1 hx with hx | hx
      · exact hl1 x hx
      · obtain ⟨y, hy, rfl⟩ := List.mem_map.1 hx
        simpa [dV] using hl2 y hy
    · rw [if_neg hk] at hy
      obtain ⟨h3, h4⟩ := h1 k y hy
      have hst := h.st k y h3
      exact hst.keep (fun v hv => by rw [hηo k hk]; exact hv) hext hsize (fun v b hv hb' hlt => hsame b hlt (h4 v b hv hb')) (fun v b p hv hb' hok' => ⟨hok'.1, Nat.lt_of_lt_of_le hok'.2.1 hsize, hok'.2.2.1, hok'.2.2.2⟩)
  · intro i j p q b v u hij hp hq hv hu hbv hbu
    rw [hσ] at hp hq
    by_cases hi : i = nx
    · subst hi
      have hj : j ≠ i := fun e => hij e.symm
      rw [if_neg hj] at hq
      rw [hηn] at hv
      cases hv
      rw [hηo j hj] at hu
      obtain ⟨h3, h4⟩ := h1 j q hq
      rcases (hnew b hbv).1 with h5 | h5
      · obtain ⟨pp, hok'⟩ := (h.st j q h3).blk hu hbu
        have := hok'.2.1; omega
      · exact h4 u b hu hbu h5
    · rw [if_neg hi] at hp
      rw [hηo i hi] at hv
      obtain ⟨h3, h4⟩ := h1 i p hp
      by_cases hj : j = nx
      · subst hj
        rw [hηn] at hu
        cases hu
        rcases (hnew b hbu).1 with h5 | h5
        · obtain ⟨pp, hok'⟩ := (h.st i p h3).blk hv hbv
          have := hok'.2.1; omega
        · exact h4 v b hv hbv h5
      · rw [if_neg hj] at hq
        rw [hηo j hj] at hu
        exact h.dist i j p q b v u hij h3 (h1 j q hq).1 hv hu hbv hbu
  · obtain ⟨h3, h4⟩ := hfr k hk
    rw [hηo k h4]; exact h.fresh k h3
  · obtain ⟨d1, d2, d3, d4⟩ := h.dp D hD
    have hlt := (Array.getElem?_eq_some_iff.1 d1).1
    exact ⟨(hsame D hlt (fun e => hdp D e d1)).trans d1, d2, d3, d4⟩
/-- an own row that is written -/
def isMo : V → Bool
  | .mo _ => true
  | _ => false
def apM (st : List (Nat × Blk)) (el : Nat) (i : TyI) (K : List V → List (List V) → List (Nat × Blk) → Prop) : V → Prop
  | .mo n => match lkB st n with
    | some (.row e sz d0 es) => e = el ∧ sz = i.sz ∧ K d0 es (delB n st)
    | _ => False
  | _ => False
def apD (st : List (Nat × Blk)) (el : Nat) (i : TyI) (K : List D → List (List D) → List (Nat × Blk) → Prop) : V → Prop
  | .d (.c (.slice none 0 0)) => K (zD i.z) [] st
  | .ow n sz d0 es => match lkB st n with
    | some (.tok e sz' len) => e = el ∧ sz = i.sz ∧ sz' = i.sz ∧ len = es.length ∧ K d0 es (delB n st)
    | _ => False
  | _ => False
def apS (sz : Nat) (K : List (List D) → Prop) : V → Prop
  | .d (.c (.slice none 0 0)) => K []
  | .d (.sl sz' _ fs) => sz' = sz ∧ K fs
  | .ow _ sz' _ fs => sz' = sz ∧ K fs
  | _ => False
/-- append(x, y...) -/
def apK (T : Tab) (st : List (Nat × Blk)) (nx : Nat) (K : V → List (Nat × Blk) → Prop) : List TypeId → List V → Prop
  | [t, t'], [x, y] => t = t' ∧ match ty T t with
    | some ⟨.slice el, _, _, _⟩ => match ty T el with
      | some i => (0 < i.sz ∧ i.z.cells.size = i.sz) ∧ match isMo x with
        | true => apM st el i (fun d0 es st1 => apS i.sz (fun fs => (es.length + fs.length) * i.by_ ≤ 140737488355328 ∧ es.length + fs.length ≤ 140737488351232 ∧ K (.mo nx) ((nx, .row el i.sz d0 (es ++ fs.map dV)) :: st1)) y) x
        | false => apD st el i (fun d0 es st1 => apS i.sz (fun fs => (es.length + fs.length) * i.by_ ≤ 140737488355328 ∧ es.length + fs.length ≤ 140737488351232 ∧ K (.ow nx i.sz d0 (es ++ fs)) ((nx, .tok el i.sz (es.length + fs.length)) :: st1)) y) x
      | none => False
    | _ => False
  | _, _ => False
theorem apD_ok {st : List (Nat × Blk)} {el : Nat} {i : TyI} {K : List D → List (List D) → List (Nat × Blk) → Prop} {x : V} (h : apD st el i K x) : ∃ d0 es st1, K d0 es st1 ∧ ∀ {B : Base} {fr : Nat → Prop} {E : Env} {v0 : Value}, GamS P B (lkB st) fr E → RV E x v0 →
    ∃ us0, E.w.ownsRow 0 el i.sz v0 es.length us0 ∧ RDL E.F E.w es.flatten us0 ∧ (∀ u ∈ us0, u.oneCell' = true) ∧ (∀ x ∈ es, x.length = i.sz) ∧ (∀ b, hb v0 = some b → okB B E b (fun o => o < es.length * i.sz)) ∧ ∀ k y, lkB st1 k = some y → lkB st k = some y ∧ ∀ v b, E.η k = some v → hb v = some b → hb v0 ≠ some b := by
  unfold apD at h
  split at h <;> try exact h.elim
  · refine ⟨_, _, _, h, fun hg hv => ?_⟩
    simp only [RV, RD] at hv
    subst hv
    exact ⟨[], World.ownsRow_nil _ _ _ _, by simp [RDL], by simp, by simp, fun b hb' => by simp [hb] at hb', fun k y hy => ⟨hy, fun v b _ _ => by simp [hb]⟩⟩
  · rename_i n sz d0 es
    split at h <;> try exact h.elim
    rename_i e sz' len hst
    obtain ⟨rfl, rfl, rfl, rfl, h⟩ := h
    refine ⟨_, _, _, h, fun {B fr E v0} hg hv => ?_⟩
    simp only [RV] at hv
    obtain ⟨v1, us, h1, h2, h3⟩ := hg.st n _ hst
    rw [hv.1] at h1
    cases h1
    obtain ⟨g1, g2, g3, _⟩ := own_cells hv.2 h2
    refine ⟨us, h2, g1, g2, g3, h3, fun k y hy => ?_⟩
    rw [lkB_delB] at hy
    by_cases hk : k = n
    · rw [if_pos hk] at hy; cases hy
    · rw [if_neg hk] at hy
      exact ⟨hy, fun v b hvk hbk hb0 => hg.dist k n y _ b v v0 hk hy hst hvk hv.1 hbk hb0⟩
theorem apM_ok {st : List (Nat × Blk)} {el : Nat} {i : TyI} {K : List V → List (List V) → List (Nat × Blk) → Prop} {x : V} (h : apM st el i K x) : ∃ d0 es st1, K d0 es st1 ∧ ∀ {B : Base} {fr : Nat → Prop} {E : Env} {v0 : Value}, GamS P B (lkB st) fr E → RV E x v0 →
    ∃ us0, E.w.ownsRow 0 el i.sz v0 es.length us0 ∧ RVL E es.flatten us0 ∧ (∀ u ∈ us0, u.oneCell' = true) ∧ (∀ x ∈ es, x.length = i.sz) ∧ (∀ b, hb v0 = some b → okB B E b (fun _ => False)) ∧ ∀ k y, lkB st1 k = some y → lkB st k = some y ∧ ∀ v b, E.η k = some v → hb v = some b → hb v0 ≠ some b := by
  unfold apM at h
  split at h <;> try exact h.elim
  rename_i n
  split at h <;> try exact h.elim
  rename_i e sz d0 es hst
  obtain ⟨rfl, rfl, h⟩ := h
  refine ⟨_, _, _, h, fun {B fr E v0} hg hv => ?_⟩
  simp only [RV] at hv
  obtain ⟨v1, us, h1, h2, h3, h4, h5, _, h7⟩ := hg.st n _ hst
  rw [hv.1] at h1
  cases h1
  refine ⟨us, h2, h3, h5, h4, h7, fun k y hy => ?_⟩
  rw [lkB_delB] at hy
  by_cases hk : k = n
  · rw [if_pos hk] at hy; cases hy
  · rw [if_neg hk] at hy
    exact ⟨hy, fun v b hvk hbk hb0 => hg.dist k n y _ b v v0 hk hy hst hvk hv.1 hbk hb0⟩
theorem apS_ok {sz : Nat} {K : List (List D) → Prop} {y : V} (h : apS sz K y) : ∃ fs, K fs ∧ ∀ {E : Env} {u : Value}, RV E y u → (∃ c, u = .slice none 0 c ∧ fs = []) ∨ ∃ ad c news, u = .slice (some ad) fs.length c ∧ RDL E.F E.w fs.flatten news ∧ news.length = fs.length * sz ∧ (∀ x ∈ news, x.oneCell' = true) ∧ (∀ x ∈ fs, x.length = sz) ∧ ∀ j x, news[j]? = some x → E.w.cell? (ad.add j) = some x := by
  have key : ∀ {E : Env} {u : Value} {d0 : List D} {fs : List (List D)}, RD E.F E.w (.sl sz d0 fs) u → (∃ c, u = .slice none 0 c ∧ fs = []) ∨ ∃ ad c news, u = .slice (some ad) fs.length c ∧ RDL E.F E.w fs.flatten news ∧ news.length = fs.length * sz ∧ (∀ x ∈ news, x.oneCell' = true) ∧ (∀ x ∈ fs, x.length = sz) ∧ ∀ j x, news[j]? = some x → E.w.cell? (ad.add j) = some x := fun {E u d0 fs} hu => by
    simp only [RD] at hu
    obtain ⟨a, cap, hv, _, _, hr⟩ := hu
    cases a with
    | none =>
      have := RR.none_nil hr
      subst this
      exact .inl ⟨cap, hv, rfl⟩
    | some ad =>
      cases fs with
      | nil => exact .inr ⟨ad, cap, [], hv, by simp [RDL], by simp, by simp, by simp, by simp⟩
      | cons f fs =>
        obtain ⟨b, o, us, hae, _⟩ := hr.get (i := 0) rfl
        cases hae
        obtain ⟨us, g1, g2, g3, g4, g5⟩ := hr.cells
        refine .inr ⟨⟨b, o, none⟩, cap, us, hv, g1, g2, g3, g4, fun j x hj => ?_⟩
        rw [Addr.add_any]
        simpa using (g5 j x hj).2
  unfold apS at h
  split at h <;> try exact h.elim
  · refine ⟨_, h, fun hu => ?_⟩
    simp only [RV, RD] at hu
    exact .inl ⟨0, hu, rfl⟩
  · obtain ⟨rfl, h⟩ := h
    exact ⟨_, h, fun hu => key (by simpa only [RV] using hu)⟩
  · obtain ⟨rfl, h⟩ := h
    exact ⟨_, h, fun hu => key (by simp only [RV] at hu; exact hu.2)⟩
/-- an append -/
theorem ap_ok {B : Base} {T : Tab} {s : St} {o : Oper} (hT : TabOk P T) {c : Call} (ho : o.op = .call c) (hc : c.callee = .builtin .append) (hco : (c.args.toList.all (constOk B.N)) = true) {K : V → List (Nat × Blk) → Prop} (h : apK T s.st s.nx K c.argTypes.toList (c.args.toList.map (ev (lkT s.tm)))) :
    ∃ v st', K v st' ∧ ∀ E a, Gam P B s E a → ∃ u E', (execOp a.eval o).run P E.w = .ok (.value u) E'.w ∧ GamS P B (lkB st') (fun n => s.nx + 1 ≤ n) E' ∧ Ext E E' ∧ RV E' v u ∧ E'.dp = E.dp := by
  generalize hts : c.argTypes.toList = ts at h
  generalize has : c.args.toList.map (ev (lkT s.tm)) = vs at h
  unfold apK at h
  split at h <;> try exact h.elim
  rename_i t t' x y
  obtain ⟨rfl, h⟩ := h
  have hts' : c.argTypes = #[t, t] := by rw [← Array.toArray_toList (xs := c.argTypes), hts]
  obtain ⟨p, q, h1, h2, h3⟩ := args_two has
  have has' : c.args = #[p, q] := by rw [← Array.toArray_toList (xs := c.args), h1]
  split at h <;> try exact h.elim
  rename_i el sz z bt hi1
  split at h <;> try exact h.elim
  rename_i i hi2
  obtain ⟨⟨hpos, hzs⟩, h⟩ := h
  split at h
  · obtain ⟨d0, es, st1, h, hD⟩ := apM_ok (P := P) h
    obtain ⟨fs, ⟨hby, hmax, hK⟩, hS⟩ := apS_ok h
    refine ⟨_, _, hK, fun E a hg => ?_⟩
    rw [h1] at hco
    simp only [List.all_cons, List.all_nil, Bool.and_true, Bool.and_eq_true] at hco
    have rx := ev_ok hg.2 p hco.1
    have ry := ev_ok hg.2 q hco.2
    rw [h2] at rx
    rw [h3] at ry
    obtain ⟨us0, k1, k2, k3, k4, k5, k6⟩ := hD hg.1 rx
    have ht := (ty_ok hT hi1).2
    have hinf := (ty_ok hT hi2).1
    simp only [kdOk] at ht
    obtain ⟨j, hj, hz, hsz, hbyt⟩ : ∃ j, P.info? el = some j ∧ j.zero = some i.z ∧ j.size = i.sz ∧ j.bytes = i.by_ := by
      cases hj : P.info? el with
      | none => rw [hj] at hinf; cases hinf
      | some j => rw [hj] at hinf; simp at hinf; exact ⟨j, rfl, hinf.2.1, hinf.1, hinf.2.2⟩
    obtain ⟨a0, c0, hv0, _⟩ := own_form k1
    have hgrow : ∃ v' w' news, (Builtin.append_ #[t, t] o.type #[a.eval p, a.eval q]).run P E.w = .ok v' w' ∧ Grew 0 el i.sz E.w (a.eval p) v' (es.length + fs.length) (us0 ++ news) w' ∧ (∀ g, (a.eval p).ownBlock = some g → v'.ownBlock = some g ∨ w'.heap[g]? = E.w.heap[g]?) ∧ RDL E.F E.w fs.flatten news ∧ (∀ u ∈ news, u.oneCell' = true) ∧ ∀ x ∈ fs, x.length = i.sz := by
      rcases hS ry with ⟨c1, hu, rfl⟩ | ⟨ad, c1, news, hu, g1, g2, g3, g4, g5⟩
      · refine ⟨a.eval p, E.w, [], by rw [hu]; exact run_append_none E.w 0 t _ el j ht hj _ _ _ k1 c1, by simpa using Grew.refl k1, fun _ _ => .inr rfl, by simp [RDL], by simp, by simp⟩
      · obtain ⟨v', w', r1, r2, r3⟩ := run_append_own3 (P := P) E.w 0 t o.type el j i.z i.sz i.by_ ht hj hz hsz hbyt hzs hpos (a.eval p) es.length us0 k1 ad fs.length c1 news g2 g5 g3 (by unfold maxLen; omega) hby (Nat.zero_le _)
        exact ⟨v', w', news, by rw [hu]; exact r1, r2, r3, g1, g3, g4⟩
    obtain ⟨v', w', news, r1, r2, r3, r4, r5, r6⟩ := hgrow
    have hσn : lkB st1 s.nx = none := by
      cases hq : lkB st1 s.nx with
      | none => rfl
      | some y =>
        have := hg.1.st _ _ (k6 _ _ hq).1
        have hno := hg.1.fresh s.nx (Nat.le_refl _)
        cases y with
        | cells t cs => obtain ⟨b, us, e1, _⟩ := this; rw [hno] at e1; cases e1
        | tok e sz len => obtain ⟨v, us, e1, _⟩ := this; rw [hno] at e1; cases e1
        | row e sz d0 es => obtain ⟨v, us, e1, _⟩ := this; rw [hno] at e1; cases e1
        | map q k zv z0 es => obtain ⟨b, ms, clock, e1, _⟩ := this; rw [hno] at e1; cases e1
        | loop L st pe => obtain ⟨b, rec, e1, _⟩ := this; rw [hno] at e1; cases e1
        | raw b0 o0 => obtain ⟨v, e1, _⟩ := this; rw [hno] at e1; cases e1
    have hdp : ∀ b, hb (a.eval p) = some b → E.w.heap[b]? ≠ some (.deferred (some [])) := fun b hb' => by
      rcases k1.2 with ⟨e1, _⟩ | ⟨g, cap, cur, e1, _, e3, _⟩
      · rw [e1] at hb'; cases hb'
      · rw [e1] at hb'; cases hb'; rw [e3]; simp
    obtain ⟨E', hw, hG, hE, hR, hD⟩ := GamS.growM (d0 := d0) (σ1 := lkB st1) (σ' := lkB ((s.nx, .row el i.sz d0 (es ++ fs.map dV)) :: st1)) (fr' := fun n => s.nx + 1 ≤ n) (nx := s.nx) (m := fs.length) hg.1 hdp (Nat.le_refl _) (fun k hk => ⟨by omega, by omega⟩) (fun k => rfl) k6 k5 r2 (ownBlock_hb hv0) rfl rfl k2 r4 k3 r5 k4 r6 hmax
    refine ⟨v', E', ?_, hG, hE, hR, hD⟩
    rw [hw]
    simp [execOp, ho, resolve, hc, has', hts', invoke, builtin, r1]
  · obtain ⟨d0, es, st1, h, hD⟩ := apD_ok (P := P) h
    obtain ⟨fs, ⟨hby, hmax, hK⟩, hS⟩ := apS_ok h
    refine ⟨_, _, hK, fun E a hg => ?_⟩
    rw [h1] at hco
    simp only [List.all_cons, List.all_nil, Bool.and_true, Bool.and_eq_true] at hco
    have rx := ev_ok hg.2 p hco.1
    have ry := ev_ok hg.2 q hco.2
    rw [h2] at rx
    rw [h3] at ry
    obtain ⟨us0, k1, k2, k3, k4, k5, k6⟩ := hD hg.1 rx
    have ht := (ty_ok hT hi1).2
    have hinf := (ty_ok hT hi2).1
    simp only [kdOk] at ht
    obtain ⟨j, hj, hz, hsz, hbyt⟩ : ∃ j, P.info? el = some j ∧ j.zero = some i.z ∧ j.size = i.sz ∧ j.bytes = i.by_ := by
      cases hj : P.info? el with
      | none => rw [hj] at hinf; cases hinf
      | some j => rw [hj] at hinf; simp at hinf; exact ⟨j, rfl, hinf.2.1, hinf.1, hinf.2.2⟩
    obtain ⟨a0, c0, hv0, _⟩ := own_form k1
    have hgrow : ∃ v' w' news, (Builtin.append_ #[t, t] o.type #[a.eval p, a.eval q]).run P E.w = .ok v' w' ∧ Grew 0 el i.sz E.w (a.eval p) v' (es.length + fs.length) (us0 ++ news) w' ∧ (∀ g, (a.eval p).ownBlock = some g → v'.ownBlock = some g ∨ w'.heap[g]? = E.w.heap[g]?) ∧ RDL E.F E.w fs.flatten news ∧ (∀ u ∈ news, u.oneCell' = true) ∧ ∀ x ∈ fs, x.length = i.sz := by
      rcases hS ry with ⟨c1, hu, rfl⟩ | ⟨ad, c1, news, hu, g1, g2, g3, g4, g5⟩
      · refine ⟨a.eval p, E.w, [], by rw [hu]; exact run_append_none E.w 0 t _ el j ht hj _ _ _ k1 c1, by simpa using Grew.refl k1, fun _ _ => .inr rfl, by simp [RDL], by simp, by simp⟩
      · obtain ⟨v', w', r1, r2, r3⟩ := run_append_own3 (P := P) E.w 0 t o.type el j i.z i.sz i.by_ ht hj hz hsz hbyt hzs hpos (a.eval p) es.length us0 k1 ad fs.length c1 news g2 g5 g3 (by unfold maxLen; omega) hby (Nat.zero_le _)
        exact ⟨v', w', news, by rw [hu]; exact r1, r2, r3, g1, g3, g4⟩
    obtain ⟨v', w', news, r1, r2, r3, r4, r5, r6⟩ := hgrow
    have hσn : lkB st1 s.nx = none := by
      cases hq : lkB st1 s.nx with
      | none => rfl
      | some y =>
        have := hg.1.st _ _ (k6 _ _ hq).1
        have hno := hg.1.fresh s.nx (Nat.le_refl _)
        cases y with
        | cells t cs => obtain ⟨b, us, e1, _⟩ := this; rw [hno] at e1; cases e1
        | tok e sz len => obtain ⟨v, us, e1, _⟩ := this; rw [hno] at e1; cases e1
        | row e sz d0 es => obtain ⟨v, us, e1, _⟩ := this; rw [hno] at e1; cases e1
        | map q k zv z0 es => obtain ⟨b, ms, clock, e1, _⟩ := this; rw [hno] at e1; cases e1
        | loop L st pe => obtain ⟨b, rec, e1, _⟩ := this; rw [hno] at e1; cases e1
        | raw b0 o0 => obtain ⟨v, e1, _⟩ := this; rw [hno] at e1; cases e1
    have hdp : ∀ b, hb (a.eval p) = some b → E.w.heap[b]? ≠ some (.deferred (some [])) := fun b hb' => by
      rcases k1.2 with ⟨e1, _⟩ | ⟨g, cap, cur, e1, _, e3, _⟩
      · rw [e1] at hb'; cases hb'
      · rw [e1] at hb'; cases hb'; rw [e3]; simp
    obtain ⟨E', hw, hG, hE, hR, hD⟩ := GamS.grow (d0 := d0) (σ1 := lkB st1) (σ' := lkB ((s.nx, .tok el i.sz (es.length + fs.length)) :: st1)) (fr' := fun n => s.nx + 1 ≤ n) (nx := s.nx) (m := fs.length) hg.1 hdp (Nat.le_refl _) (fun k hk => ⟨by omega, by omega⟩) (fun k => rfl) k6 hσn k5 r2 r3 (ownBlock_hb hv0) rfl rfl k1.1
      (fun g hg' j u hj => by
        have := k1.cells (g := g) ((ownBlock_hb hv0).trans hg') j u hj
        rwa [Addr.add_any, Nat.zero_add] at this) k2 r4 k3 r5 k4 r6 hmax
    refine ⟨v', E', ?_, hG, hE, hR, hD⟩
    rw [hw]
    simp [execOp, ho, resolve, hc, has', hts', invoke, builtin, r1]
end
end Go.Proofs.Ytncihbmehbiekaa


namespace Go.Proofs.Ytncihbmehbiekaa
set_option linter.unusedVariables false
set_option linter.unusedSimpArgs false
open Go.RowKit
/-- the state behind an operation -/
def nxt (s : St) (d : Option Tmp) (v : V) : Option Blk → St
  | none => ⟨put d v s.tm, s.st, s.nx⟩
  | some x => ⟨put d v s.tm, (s.nx, x) :: s.st, s.nx + 1⟩
def strip : V → V
  | .cond _ v => v
  | v => v
def stripP (g : Bool) : V → Prop
  | .cond h _ => g = true → h = true
  | _ => True
/-- what stands for the value of a call that does not run -/
def zOf (T : Tab) (t : TypeId) : V := match ty T t with
  | some i => ofC i.z
  | none => vB false
/-- whether a guarded operation runs -/
def gOf (ops : Array Oper) (tm : Nat → V) (g : Nat × Bool) : Option Bool :=
  match (ops[g.1]?).bind (·.dst) with
  | some d => match tm d with
    | .d (.c (.bool b)) => some (b == g.2)
    | .cond h (.d (.c (.bool b))) => some (h && (b == g.2))
    | _ => none
  | none => none
def allP (p : V → Prop) : List V → Prop
  | [] => True
  | x :: l => p x ∧ allP p l
/-- a guarded operation: what is known under the guard serves -/
def gop (P : Program) (T : Tab) (b : Bool) (op : Op) (e : Operand → V) (st : Nat → Option Blk) (nm : Nat) (K : HK) : Prop := match op with
  | .pick c x y => stripP b (e c) ∧ pickK (b = true) K (strip (e c)) (e x) (e y)
  | op => allP (stripP b) (op.operands.toList.map e) ∧ hop P T (b = true) op (fun x => strip (e x)) st nm K
/-- one operation more -/
def sop (P : Program) (T : Tab) (ops : Array Oper) (o : Oper) (s : St) (K : St → Prop) : Prop :=
  match o.guard with
  | none => match o.op with
    | .store t x y => match ty T t with
      | some i => stK s.st i.sz (ev (lkT s.tm) y) (fun st' => K ⟨put o.dst (.d (.c undef)) s.tm, st', s.nx⟩) (ev (lkT s.tm) x)
      | none => False
    | .mapUpdate t m x y => mpK P T s.st t (ev (lkT s.tm) x) (fun c es => upM c (ev (lkT s.tm) y) es) (fun st' => K ⟨put o.dst (.d (.c undef)) s.tm, st', s.nx⟩) (ev (lkT s.tm) m)
    | .insert t m x y => mpK P T s.st t (ev (lkT s.tm) x) (fun c es => upM c (ev (lkT s.tm) y) es) (fun st' => K ⟨put o.dst (.d (.c undef)) s.tm, st', s.nx⟩) (ev (lkT s.tm) m)
    | .call ⟨.builtin .delete, asA, ts⟩ => match asA.toList, ts.toList with
      | [m, x], t :: _ => mpK P T s.st t (ev (lkT s.tm) x) dlM (fun st' => K ⟨put o.dst (.tup []) s.tm, st', s.nx⟩) (ev (lkT s.tm) m)
      | _, _ => False
    | .call ⟨.builtin .append, asA, ts⟩ => apK T s.st s.nx (fun v st' => K ⟨put o.dst v s.tm, st', s.nx + 1⟩) ts.toList (asA.toList.map (ev (lkT s.tm)))
    | op => hop P T True op (ev (lkT s.tm)) (lkB s.st) s.nx (fun v x => K (nxt s o.dst v x))
  | some g => match gOf ops (lkT s.tm) g with
    | some b => gop P T b o.op (ev (lkT s.tm)) (lkB s.st) s.nx (fun v x => match x, v with
      | none, v => K ⟨put o.dst (.cond b v) s.tm, s.st, s.nx⟩
      | some _, .ow _ sz d0 es => K ⟨put o.dst (.cond b (.d (.sl sz d0 es))) s.tm, s.st, s.nx⟩
      | _, _ => False)
    | none => False
/-- a token that keeps simp out of K -/
structure TokS (K : St → Prop) : Type where
/-- a call that may read and write what is there -/
def callI (P : Program) (B : Base) (f : FuncId) (vs : List V) (d : Option Tmp) (s : St) (K : St → Prop) (_ : TokS K) : Prop :=
  (P.funcs[f]?).any (fun fn => fn.name != "runtime.NumGoroutine" && fn.body.isSome) = true ∧ ∀ E a us, Gam P B s E a → RVL E vs us →
    Calls P f us.toArray E.w fun e w' => ∃ u E' s', e = .returned u ∧ E'.w = w' ∧ Gam P B s' E' (a.put d u) ∧ K s'
/-- a call of yield -/
def yieldI (P : Program) (B : Base) (n : Nat) (vs : List V) (d : Option Tmp) (s : St) (K : St → Prop) (_ : TokS K) : Prop :=
  B.r = none ∧ ∀ E a l us, Gam P B s E a → E.η n = some (.func (.yield l) #[] #[]) → RVL E vs us → ∃ fn tmps assign body,
    (Instr.yield l us.toArray).run P E.w = .ok (.round l fn tmps assign body) E.w ∧ RoundIn (fen none) 0 P l fn tmps assign body E.w fun e w' => ∃ u E' s', e = .returned u ∧ E'.w = w' ∧ Gam P B s' E' (a.put d u) ∧ K s'
/-- a call of a function that is data -/
def slotX (P : Program) (B : Base) (R : Ft → World → Value → Prop) (vs : List V) (d : Option Tmp) (s : St) (K : St → Prop) (_ : TokS K) : Prop :=
  ∀ E a us v, Gam P B s E a → RV E (.d (.x R)) v → RVL E vs us → ∃ f fst cap, v = .func (.func f) fst cap ∧ (P.funcs[f]?).any (fun fn => fn.name != "runtime.NumGoroutine" && fn.body.isSome) = true ∧
    Calls P f (fst ++ us.toArray ++ cap) E.w fun e w' => ∃ u E' s', e = .returned u ∧ E'.w = w' ∧ Gam P B s' E' (a.put d u) ∧ K s'
def slotK (P : Program) (B : Base) (fv : V) (asA : List V) (d : Option Tmp) (s : St) (K : St → Prop) : Prop := match fv with
  | .fn f cap => callI P B f (asA ++ cap) d s K ⟨⟩
  | .d (.c (.func (.func f) fst cap)) => (fst = #[] ∧ cap = #[]) ∧ callI P B f asA d s K ⟨⟩
  | .yl n => yieldI P B n asA d s K ⟨⟩
  | .d (.x R) => slotX P B R asA d s K ⟨⟩
  | _ => False
/-- two ways -/
def Two (b : Bool) (p q : Prop) : Prop := (b = true → p) ∧ (b = false → q)
theorem two_intro {b : Bool} {p q : Prop} (h1 : b = true → p) (h2 : b = false → q) : Two b p q := ⟨h1, h2⟩
/-- two ways, at a guard -/
def TwoG (b : Bool) (p q : Prop) : Prop := (b = true → p) ∧ (b = false → q)
theorem twoG_intro {b : Bool} {p q : Prop} (h1 : b = true → p) (h2 : b = false → q) : TwoG b p q := ⟨h1, h2⟩
/-- constants are of one cell or structs of such; slots are there -/
def opOk (N : Nat) (o : Oper) : Bool := o.op.operands.toList.all (constOk N) && (match o.dst with | some d => decide (d < N) | none => true)
/-- an operation of another kind -/
def genK (P : Program) (B : Base) (op : Op) (d : Option Tmp) (s : St) (K : St → Prop) (_ : TokS K) : Prop :=
  ∀ (o : Oper) E a, o.op = op → o.dst = d → opOk B.N o = true → Gam P B s E a → Upon P (fun u w' => ∃ E' s', E'.w = w' ∧ Gam P B s' E' (a.put d u) ∧ K s') ((execOp a.eval o).run P E.w)
def rwp (P : Program) (B : Base) (T : Tab) (ops : Array Oper) : List Oper → St → (St → Prop) → Prop
  | [], s, K => K s
  | o :: rest, s, K => match o.guard with
    | none => match o.op with
      | .call ⟨.value (.tmp t), asA, _⟩ => slotK P B (lkT s.tm t) (asA.toList.map (ev (lkT s.tm))) o.dst s (fun s' => rwp P B T ops rest s' K)
      | .call ⟨.value (.func f), asA, _⟩ => callI P B f (asA.toList.map (ev (lkT s.tm))) o.dst s (fun s' => rwp P B T ops rest s' K) ⟨⟩
      | .range t x => genK P B (.range t x) o.dst s (fun s' => rwp P B T ops rest s' K) ⟨⟩
      | .next x y => genK P B (.next x y) o.dst s (fun s' => rwp P B T ops rest s' K) ⟨⟩
      | .entry x => genK P B (.entry x) o.dst s (fun s' => rwp P B T ops rest s' K) ⟨⟩
      | _ => sop P T ops o s (fun s' => rwp P B T ops rest s' K)
    | some g => match o.op with
      | .call ⟨.value (.tmp t), asA, _⟩ => match gOf ops (lkT s.tm) g with
        | some b => TwoG b (allP (stripP true) (lkT s.tm t :: asA.toList.map (ev (lkT s.tm))) ∧ slotK P B (strip (lkT s.tm t)) (asA.toList.map fun x => strip (ev (lkT s.tm) x)) o.dst s (fun s' => rwp P B T ops rest s' K)) (rwp P B T ops rest ⟨put o.dst (.cond false (zOf T o.type)) s.tm, s.st, s.nx⟩ K)
        | none => False
      | _ => sop P T ops o s (fun s' => rwp P B T ops rest s' K)
abbrev AQ := Exit → St → Prop
def AQQ (P : Program) (B : Base) (Q : AQ) : Exit → Act → World → Prop := fun x a w => ∃ E s, E.w = w ∧ Gam P B s E a ∧ Q x s
/-- a token that keeps simp out of the code and of what it is walked for -/
structure Tk (c : Code) (Q : AQ) : Type where
def AW (P : Program) (B : Base) (c : Code) (Q : AQ) (_ : Tk c Q) (s : St) : Prop := ∀ E a, Gam P B s E a → c.wpIn (fen B.r) 0 P (AQQ P B Q) a E.w
section
variable {P : Program} {B : Base} {T : Tab} {ops : Array Oper} {o : Oper} {s : St} {K : St → Prop} {Q : AQ}
/-- what an operation does, on the state -/
def Does (P : Program) (B : Base) (ops : Array Oper) (o : Oper) (s s' : St) : Prop :=
  ∀ E a, Gam P B s E a → (Region.wanted o (yielded ops a.tmps) = true → Upon P (fun u w' => ∃ E', E'.w = w' ∧ Gam P B s' E' (a.put o.dst u)) ((execOp a.eval o).run P E.w)) ∧ (Region.wanted o (yielded ops a.tmps) = false → Gam P B s' E (a.put o.dst undef))
theorem does_next {v : V} {x : Option Blk} (ho : opOk B.N o = true) (hg : o.guard = none) (h : HD P o (ev (lkT s.tm)) (lkB s.st) s.nx v x) : Does P B ops o s (nxt s o.dst v x) := by
  intro E a hG
  simp only [opOk, Bool.and_eq_true] at ho
  have hd : ∀ t, o.dst = some t → t < B.N := fun t e => by have := ho.2; rw [e] at this; simpa using this
  have hw : Region.wanted o (yielded ops a.tmps) = true := by simp [Region.wanted, hg]
  refine ⟨fun _ => ?_, fun h' => by rw [hw] at h'; cases h'⟩
  refine (h B E a.eval (fun y hy => ev_ok hG.2 y (List.all_eq_true.1 ho.1 y (by simpa using hy))) (fun f => rfl) hG.1.st hG.1.lt hG.1.size (hG.1.fresh _ (Nat.le_refl _))).mono ?_
  rintro u w' ⟨E', hw', hs, hv, hn⟩
  have hext := hs.ext hG.1.lt (hG.1.fresh _ (Nat.le_refl _))
  have hσn : lkB s.st s.nx = none := by
    cases hq : lkB s.st s.nx with
    | none => rfl
    | some y =>
      have := hG.1.st _ _ hq
      have hno := hG.1.fresh s.nx (Nat.le_refl _)
      cases y with
      | cells t cs => obtain ⟨b, us, e1, _⟩ := this; rw [hno] at e1; cases e1
      | tok e sz len => obtain ⟨v, us, e1, _⟩ := this; rw [hno] at e1; cases e1
      | row e sz d0 es => obtain ⟨v, us, e1, _⟩ := this; rw [hno] at e1; cases e1
      | map q k zv z0 es => obtain ⟨b, ms, clock, e1, _⟩ := this; rw [hno] at e1; cases e1
      | loop L st pe => obtain ⟨b, rec, e1, _⟩ := this; rw [hno] at e1; cases e1
      | raw b0 o0 => obtain ⟨v, e1, _⟩ := this; rw [hno] at e1; cases e1
  refine ⟨E', hw', ?_⟩
  cases x with
  | none => exact ⟨hG.1.head (σ' := lkB s.st) hs hn (Nat.le_refl _) (fun n => by split <;> simp_all) hσn (fun n hn' => ⟨hn', fun h => by cases h⟩), (hG.2.ext hext hs.dp).put hv hd⟩
  | some y => exact ⟨hG.1.head (σ' := lkB ((s.nx, y) :: s.st)) (fr' := fun n => s.nx + 1 ≤ n) hs hn (Nat.le_refl _) (fun n => rfl) hσn (fun n hn' => ⟨by omega, fun _ => by omega⟩), (hG.2.ext hext hs.dp).put hv hd⟩
theorem vOf_dst {B : Base} {ops : Array Oper} {k d : Nat} {a : Act} (hops : ∀ o ∈ ops.toList, opOk B.N o = true) (h : ∃ og, ops[k]? = some og ∧ og.dst = some d) : vOf B a d = a.tmps.getD d undef := by
  obtain ⟨og, h1, h2⟩ := h
  have := hops og (by simpa using Array.mem_of_getElem? h1)
  simp only [opOk, Bool.and_eq_true, h2, decide_eq_true_eq] at this
  unfold vOf
  rw [if_pos this.2]
theorem gOf_ok {g : Nat × Bool} {b : Bool} {E : Env} {a : Act} (hops : ∀ o ∈ ops.toList, opOk B.N o = true) (h : gOf ops (lkT s.tm) g = some b) (hG : Gam P B s E a) (hg : o.guard = some g) : Region.wanted o (yielded ops a.tmps) = b := by
  unfold gOf at h
  split at h
  · rename_i d hd
    have hdo : ∃ og, ops[g.1]? = some og ∧ og.dst = some d := by
      cases ho : ops[g.1]? with
      | none => rw [ho] at hd; cases hd
      | some og => rw [ho] at hd; exact ⟨og, rfl, by simpa using hd⟩
    obtain ⟨og, ho, hdst⟩ := hdo
    have hv := hG.2.tm d
    rw [vOf_dst hops ⟨og, ho, hdst⟩] at hv
    have hy : yielded ops a.tmps g.1 = match a.tmps.getD d undef with | .bool b => some b | _ => none := by
      simp only [yielded, ho, Option.bind_some, hdst]
      cases hq : a.tmps[d]? with
      | none => simp [Array.getD_eq_getD_getElem?, hq, undef]
      | some q => simp only [Array.getD_eq_getD_getElem?, hq, Option.getD_some]; cases q <;> rfl
    have hw : Region.wanted o (yielded ops a.tmps) = (yielded ops a.tmps g.1 == some g.2) := by
      unfold Region.wanted; rw [hg]
    rw [hw, hy]
    split at h
    · rename_i b' hb'
      cases h
      rw [hb'] at hv
      simp only [RV, RD] at hv
      rw [hv]
      simp
    · rename_i h' b' hb'
      cases h
      rw [hb'] at hv
      simp only [RV, RD] at hv
      cases h' with
      | true => rw [hv.1 rfl]; simp
      | false => rw [hv.2 rfl]; simp [undef]
    · cases h
  · cases h
theorem allP_mem {p : V → Prop} : ∀ {l : List V}, allP p l → ∀ x ∈ l, p x
  | [], _, x, hx => by cases hx
  | y :: l, h, x, hx => by
    rcases List.mem_cons.1 hx with rfl | hx
    · exact h.1
    · exact allP_mem h.2 x hx
theorem strip_ok {E : Env} {b : Bool} {x : V} {v : Value} (hb : b = true) (hp : stripP b x) (hv : RV E x v) : RV E (strip x) v := by
  cases x <;> simp only [strip, stripP] at * <;> try exact hv
  simp only [RV] at hv
  exact hv.1 (hp hb)
theorem hd_strip {b : Bool} {e : Operand → V} {st : Nat → Option Blk} {nm : Nat} {v : V} {x : Option Blk} (hb : b = true) (hp : allP (stripP b) (o.op.operands.toList.map e)) (h : HD P o (fun x => strip (e x)) st nm v x) : HD P o e st nm v x := by
  intro B E ρ h1 h2 h3 h4 h5 h6
  exact h B E ρ (fun y hy => strip_ok hb (allP_mem hp _ (List.mem_map_of_mem (by simpa using hy))) (h1 y hy)) h2 h3 h4 h5 h6
theorem gop_ok (hT : TabOk P T) {b : Bool} {e : Operand → V} {st : Nat → Option Blk} {nm : Nat} {K : HK} (h : gop P T b o.op e st nm K) : ∃ v x, K v x ∧ (b = true → HD P o e st nm v x) := by
  unfold gop at h
  split at h
  · rename_i c x y ho
    obtain ⟨hp, h⟩ := h
    have lit : ∀ {z : Operand} {p : Bool}, e z = .d (.c (.bool p)) → ∀ E v, RV E (e z) v → v = .bool p := fun hz E v hv => by rw [hz] at hv; simpa only [RV, RD] using hv
    have cnd : ∀ {z : Operand} {p g : Bool}, e z = .cond g (.d (.c (.bool p))) → g = true → ∀ E v, RV E (e z) v → v = .bool p := fun hz hg E v hv => by rw [hz] at hv; simp only [RV, RD] at hv; exact hv.1 hg
    generalize hc : strip (e c) = cb at h
    generalize hx : e x = u at h
    generalize hy : e y = w at h
    have hcb : ∀ {p : Bool}, cb = .d (.c (.bool p)) → b = true → ∀ E v, RV E (e c) v → v = .bool p := fun hz hb E v hv => by
      have := strip_ok hb hp hv
      rw [hc, hz] at this
      simpa only [RV, RD] using this
    unfold pickK at h
    split at h <;> try exact h.elim
    · exact ⟨_, none, h, fun hb => hd_pick' ho (hcb rfl hb) (fun _ => lit hx) (fun _ => lit hy)⟩
    · exact ⟨_, none, h.2, fun hb => hd_pick' ho (hcb rfl hb) (fun h1 => cnd hx (h.1 hb h1)) (fun _ => lit hy)⟩
    · exact ⟨_, none, h.2, fun hb => hd_pick' ho (hcb rfl hb) (fun _ => lit hx) (fun h1 => cnd hy (h.1 hb h1))⟩
  · obtain ⟨hp, h⟩ := h
    obtain ⟨v, x, hK, hd⟩ := hop_ok hT h
    exact ⟨v, x, hK, fun hb => hd_strip hb hp (hd hb)⟩
/-- a guarded operation; the new block, if there is one, is forgotten -/
theorem does_guard {g : Nat × Bool} {b : Bool} {v v' : V} {x : Option Blk} (hops : ∀ o ∈ ops.toList, opOk B.N o = true) (ho : opOk B.N o = true) (hg : o.guard = some g) (hgo : gOf ops (lkT s.tm) g = some b)
    (h : b = true → HD P o (ev (lkT s.tm)) (lkB s.st) s.nx v x) (hv' : ∀ E E' u, E'.η = E.η ∨ True → RV E v u → E'.F = E.F → E'.w = E.w → E'.dp = E.dp → (x = none → E'.η = E.η) → RV E' v' u) : Does P B ops o s ⟨put o.dst (.cond b v') s.tm, s.st, s.nx⟩ := by
  intro E a hG
  simp only [opOk, Bool.and_eq_true] at ho
  have hd : ∀ t, o.dst = some t → t < B.N := fun t e => by have := ho.2; rw [e] at this; simpa using this
  have hw := gOf_ok (P := P) (o := o) hops hgo hG hg
  refine ⟨fun hw1 => ?_, fun hw1 => ?_⟩
  · rw [hw] at hw1
    refine (h hw1 B E a.eval (fun y hy => ev_ok hG.2 y (List.all_eq_true.1 ho.1 y (by simpa using hy))) (fun f => rfl) hG.1.st hG.1.lt hG.1.size (hG.1.fresh _ (Nat.le_refl _))).mono ?_
    rintro u w' ⟨E', hw', hs, hv, hn⟩
    -- the name is taken back
    let E2 : Env := ⟨E.η, E'.F, E'.w, E.dp⟩
    have hs2 : HStep E E2 s.nx := ⟨hs.by_, fun _ _ => rfl, hs.F, rfl⟩
    have hext := hs2.ext hG.1.lt (hG.1.fresh _ (Nat.le_refl _))
    have hno := hG.1.fresh s.nx (Nat.le_refl _)
    have hσn : lkB s.st s.nx = none := by
      cases hq : lkB s.st s.nx with
      | none => rfl
      | some y =>
        have := hG.1.st _ _ hq
        cases y with
        | cells t cs => obtain ⟨b, us, e1, _⟩ := this; rw [hno] at e1; cases e1
        | tok e sz len => obtain ⟨v, us, e1, _⟩ := this; rw [hno] at e1; cases e1
        | row e sz d0 es => obtain ⟨v, us, e1, _⟩ := this; rw [hno] at e1; cases e1
        | map q k zv z0 es => obtain ⟨b, ms, clock, e1, _⟩ := this; rw [hno] at e1; cases e1
        | loop L st pe => obtain ⟨b, rec, e1, _⟩ := this; rw [hno] at e1; cases e1
        | raw b0 o0 => obtain ⟨v, e1, _⟩ := this; rw [hno] at e1; cases e1
    refine ⟨E2, hw', hG.1.head (σ' := lkB s.st) (x := none) hs2 rfl (Nat.le_refl _) (fun n => by split <;> simp_all) hσn (fun n hn' => ⟨hn', fun h => by cases h⟩), (hG.2.ext hext rfl).put ?_ hd⟩
    simp only [RV]
    refine ⟨fun _ => hv' E' E2 u (.inr trivial) hv (by rfl) (by rfl) hs.dp.symm (fun hx => ?_), fun hb => by rw [hw1] at hb; cases hb⟩
    subst hx
    simp only [NewB] at hn
    funext n
    by_cases hnn : n = s.nx
    · subst hnn; exact hn.symm
    · exact (hs.η n hnn).symm
  · rw [hw] at hw1
    refine ⟨hG.1, hG.2.put ?_ hd⟩
    simp only [RV]
    exact ⟨fun hb => (by rw [hw1] at hb; cases hb), fun _ => trivial⟩
theorem does_store {t : Nat} {i : TyI} (hi : TyOk P t i) {x y : Operand} (ho : opOk B.N o = true) (hg : o.guard = none) (hop : o.op = .store t x y) {K : List (Nat × Blk) → Prop} (h : stK s.st i.sz (ev (lkT s.tm) y) K (ev (lkT s.tm) x)) :
    ∃ st', K st' ∧ Does P B ops o s ⟨put o.dst (.d (.c undef)) s.tm, st', s.nx⟩ := by
  simp only [opOk, Bool.and_eq_true] at ho
  have hd : ∀ t, o.dst = some t → t < B.N := fun t e => by have := ho.2; rw [e] at this; simpa using this
  have hmem : ∀ z ∈ o.op.operands, constOk B.N z = true := fun z hz => List.all_eq_true.1 ho.1 z (by simpa using hz)
  obtain ⟨st', hK, hst⟩ := st_ok (P := P) (B := B) (s := s) (o := o) hi hop (hmem x (by simp [hop, Op.operands])) (hmem y (by simp [hop, Op.operands])) h
  refine ⟨st', hK, fun E a hG => ?_⟩
  have hw : Region.wanted o (yielded ops a.tmps) = true := by simp [Region.wanted, hg]
  refine ⟨fun _ => ?_, fun h' => by rw [hw] at h'; cases h'⟩
  obtain ⟨E', hr, h1, h2⟩ := hst E a hG
  rw [hr]
  exact ⟨E', rfl, h1, (hG.2.ext h2.1 h2.2).put (by simp [RV, RD]) hd⟩
theorem does_of {r : Next} {u : Value} {v : V} {st' : List (Nat × Blk)} (hr0 : (r = .skip ∧ u = undef) ∨ r = .value u) (hu : ∀ E, RV E v u) (ho : opOk B.N o = true) (hg : o.guard = none)
    (hst : ∀ E a, Gam P B s E a → ∃ E', (execOp a.eval o).run P E.w = .ok r E'.w ∧ GamS P B (lkB st') (fun n => s.nx ≤ n) E' ∧ Ext E E' ∧ E'.dp = E.dp) : Does P B ops o s ⟨put o.dst v s.tm, st', s.nx⟩ := by
  simp only [opOk, Bool.and_eq_true] at ho
  have hd : ∀ t, o.dst = some t → t < B.N := fun t e => by have := ho.2; rw [e] at this; simpa using this
  intro E a hG
  have hw : Region.wanted o (yielded ops a.tmps) = true := by simp [Region.wanted, hg]
  refine ⟨fun _ => ?_, fun h' => by rw [hw] at h'; cases h'⟩
  obtain ⟨E', hr, h1, h2⟩ := hst E a hG
  rw [hr]
  rcases hr0 with ⟨rfl, rfl⟩ | rfl
  · exact ⟨E', rfl, h1, (hG.2.ext h2.1 h2.2).put (hu _) hd⟩
  · exact ⟨E', rfl, h1, (hG.2.ext h2.1 h2.2).put (hu _) hd⟩
theorem opOk_mem {N : Nat} {o : Oper} (ho : opOk N o = true) : ∀ z ∈ o.op.operands, constOk N z = true := fun z hz => by
  simp only [opOk, Bool.and_eq_true] at ho
  exact List.all_eq_true.1 ho.1 z (by simpa using hz)
theorem does_append (hT : TabOk P T) {c : Call} (ho : opOk B.N o = true) (hg : o.guard = none) (hop : o.op = .call c) (hc : c.callee = .builtin .append) {K : V → List (Nat × Blk) → Prop} (h : apK T s.st s.nx K c.argTypes.toList (c.args.toList.map (ev (lkT s.tm)))) :
    ∃ v st', K v st' ∧ Does P B ops o s ⟨put o.dst v s.tm, st', s.nx + 1⟩ := by
  simp only [opOk, Bool.and_eq_true] at ho
  have hd : ∀ t, o.dst = some t → t < B.N := fun t e => by have := ho.2; rw [e] at this; simpa using this
  obtain ⟨v, st', hK, hst⟩ := ap_ok (P := P) (B := B) (s := s) (o := o) hT hop hc (List.all_eq_true.2 fun z hz => List.all_eq_true.1 ho.1 z (by simp [hop, Op.operands, Call.operands, hc]; simpa using hz)) h
  refine ⟨v, st', hK, fun E a hG => ?_⟩
  have hw : Region.wanted o (yielded ops a.tmps) = true := by simp [Region.wanted, hg]
  refine ⟨fun _ => ?_, fun h' => by rw [hw] at h'; cases h'⟩
  obtain ⟨u, E', hr, h1, h2, h3, h4⟩ := hst E a hG
  rw [hr]
  exact ⟨E', rfl, h1, (hG.2.ext h2 h4).put h3 hd⟩
theorem sop_ok (hT : TabOk P T) (hops : ∀ o ∈ ops.toList, opOk B.N o = true) (ho : opOk B.N o = true) (h : sop P T ops o s K) : ∃ s', K s' ∧ Does P B ops o s s' := by
  unfold sop at h
  split at h
  · rename_i hg
    split at h
    · rename_i t x y hop
      split at h <;> try exact h.elim
      rename_i i hi
      obtain ⟨st', hK, hd⟩ := does_store (ops := ops) (ty_ok hT hi) ho hg hop h
      exact ⟨_, hK, hd⟩
    · rename_i t m x y hop
      obtain ⟨st', hK, hst⟩ := mu_ok (P := P) (B := B) (s := s) (o := o) hT (.inl hop) (opOk_mem ho m (by simp [hop, Op.operands])) (opOk_mem ho x (by simp [hop, Op.operands])) (opOk_mem ho y (by simp [hop, Op.operands])) h
      exact ⟨_, hK, does_of (.inl ⟨rfl, rfl⟩) (fun E => by simp [RV, RD]) ho hg hst⟩
    · rename_i t m x y hop
      obtain ⟨st', hK, hst⟩ := mu_ok (P := P) (B := B) (s := s) (o := o) hT (.inr hop) (opOk_mem ho m (by simp [hop, Op.operands])) (opOk_mem ho x (by simp [hop, Op.operands])) (opOk_mem ho y (by simp [hop, Op.operands])) h
      exact ⟨_, hK, does_of (.inl ⟨rfl, rfl⟩) (fun E => by simp [RV, RD]) ho hg hst⟩
    · rename_i asA ts hop
      split at h <;> try exact h.elim
      rename_i m x t rest has hts
      have has' : asA = #[m, x] := by cases asA; simp_all
      obtain ⟨st', hK, hst⟩ := de_ok (P := P) (B := B) (s := s) (o := o) hT (t := t) (rest := rest) hop rfl (by cases ts; simp_all) has' (opOk_mem ho m (by simp [hop, Op.operands, Call.operands, has'])) (opOk_mem ho x (by simp [hop, Op.operands, Call.operands, has'])) h
      exact ⟨_, hK, does_of (.inr rfl) (fun E => by simp [RV, RVL]) ho hg hst⟩
    · rename_i asA ts hop
      obtain ⟨v, st', hK, hd⟩ := does_append (ops := ops) hT ho hg hop rfl h
      exact ⟨_, hK, hd⟩
    · obtain ⟨v, x, hK, hd⟩ := hop_ok hT h
      exact ⟨_, hK, does_next ho hg (hd trivial)⟩
  · rename_i g hg
    split at h <;> try exact h.elim
    rename_i b hgo
    obtain ⟨v, x, hK, hd⟩ := gop_ok hT h
    split at hK
    · exact ⟨_, hK, does_guard hops ho hg hgo hd (fun E E' u _ hv hF hw hdp hη => by
        have : E' = E := by
          cases E; cases E'
          have hη := hη rfl
          simp only at hF hw hη hdp
          rw [hF, hw, hη, hdp]
        rw [this]; exact hv)⟩
    · rename_i y n sz d0 es
      refine ⟨_, hK, does_guard hops ho hg hgo hd (fun E E' u _ hv hF hw hdp hη => ?_)⟩
      simp only [RV] at hv ⊢
      rw [hF, hw]
      exact hv.2
    · exact hK.elim
theorem slot_ok {x : Operand} {asA : Array Operand} {ts : Array TypeId} (hop : o.op = .call ⟨.value x, asA, ts⟩) {fv : V} {vs : List V} (hF : ∀ E a, Gam P B s E a → RV E fv (a.eval x)) (hA : ∀ E a, Gam P B s E a → RVL E vs (asA.toList.map a.eval)) (h : slotK P B fv vs o.dst s K) {Q : Exit → Act → World → Prop} {N : Act → World → Prop}
    (hN : ∀ s' E a, K s' → Gam P B s' E a → N a E.w) : ∀ E a, Gam P B s E a → o.wpIn (fen B.r) 0 P a E.w N Q := by
  intro E a hG
  have hargs := hA E a hG
  have hmap : asA.map a.eval = (asA.toList.map a.eval).toArray := by rw [← Array.toList_map, Array.toArray_toList]
  have hfv := hF E a hG
  have fin : ∀ (f : FuncId) (cap : List V) (us : List Value), callI P B f (vs ++ cap) o.dst s K ⟨⟩ → a.eval x = .func (.func f) #[] us.toArray → RVL E cap us → o.wpIn (fen B.r) 0 P a E.w N Q := by
    intro f cap us hc hv hu
    have hrun : (execOp a.eval o).run P E.w = .ok (.enter f (asA.toList.map a.eval ++ us).toArray) E.w := by
      have : (asA.toList.map a.eval ++ us).toArray = asA.map a.eval ++ us.toArray := by rw [hmap]; simp
      rw [this]
      simp [execOp, hop, resolve, hv, Deferred.ofValue, invoke, run_callFunc hc.1]
    refine Upon.wpIn (R := fun u w' => ∃ E' s', E'.w = w' ∧ Gam P B s' E' (a.put o.dst u) ∧ K s') ?_ (fun v w' ⟨E', s', e, hG', hK⟩ => by subst e; exact hN s' E' _ hK hG')
    rw [hrun]
    simp only [Upon]
    exact (hc.2 E a _ hG (RVL.append hargs hu)).mono fun e w' ⟨u, E', s', h1, h2⟩ => ⟨u, h1, E', s', h2⟩
  unfold slotK at h
  split at h <;> try exact h.elim
  · simp only [RV] at hfv
    obtain ⟨us, h1, h2⟩ := hfv
    exact fin _ _ us h h1 h2
  · obtain ⟨⟨rfl, rfl⟩, h⟩ := h
    simp only [RV, RD] at hfv
    exact fin _ [] [] (by simpa using h) hfv (by simp [RVL])
  · simp only [RV] at hfv
    obtain ⟨h1, l, h2⟩ := hfv
    obtain ⟨hr, hy⟩ := h
    obtain ⟨fn, tmps, assign, body, g1, g2⟩ := hy E a l _ hG (by rw [h1, h2]) hargs
    rw [hr]
    refine ⟨fun _ _ => trivial, ?_⟩
    have hrun : ((Oper.semAt (fen none).round a.eval o).run P E.w) = .ok (.round l fn tmps assign body) E.w := by
      show (execOp a.eval o).run P E.w = _
      rw [← g1, ← hmap]
      simp [execOp, hop, resolve, h2, Deferred.ofValue, invoke]
    rw [hrun]
    refine ⟨fun h => (by cases h), ?_⟩
    refine g2.mono ?_
    rintro e w' ⟨u, E', s', rfl, rfl, hG', hK⟩
    exact hN s' E' _ hK hG'
  · obtain ⟨f, fst, cap, h1, h2, h3⟩ := h E a _ _ hG hfv hargs
    have hrun : (execOp a.eval o).run P E.w = .ok (.enter f (fst ++ (asA.toList.map a.eval).toArray ++ cap)) E.w := by
      rw [← hmap]
      simp [execOp, hop, resolve, h1, Deferred.ofValue, invoke, run_callFunc h2]
    refine Upon.wpIn (R := fun u w' => ∃ E' s', E'.w = w' ∧ Gam P B s' E' (a.put o.dst u) ∧ K s') ?_ (fun v w' ⟨E', s', e, hG', hK⟩ => by subst e; exact hN s' E' _ hK hG')
    rw [hrun]
    simp only [Upon]
    exact h3.mono fun e w' ⟨u, E', s', h1, h2⟩ => ⟨u, h1, E', s', h2⟩
/-- a region in the order of its text -/
theorem rwp_list2 (hT : TabOk P T) (hops : ∀ o ∈ ops.toList, opOk B.N o = true) {Q : Exit → Act → World → Prop} {l2 : List Oper} : ∀ (l : List Oper) (s : St) (K : St → Prop), (l.all (opOk B.N)) = true → rwp P B T ops l s K → (∀ s', K s' → ∀ E a, Gam P B s' E a → wpListIn (fen B.r) 0 P ops Q l2 a E.w) → ∀ E a, Gam P B s E a → wpListIn (fen B.r) 0 P ops Q (l ++ l2) a E.w
  | [], s, K, _, h, hQ, E, a, hG => hQ s h E a hG
  | o :: l, s, K, ho, h, hQ, E, a, hG => by
    simp only [List.all_cons, Bool.and_eq_true] at ho
    rw [List.cons_append]
    have plain : sop P T ops o s (fun s' => rwp P B T ops l s' K) → wpListIn (fen B.r) 0 P ops Q (o :: (l ++ l2)) a E.w := fun h => by
      obtain ⟨s', hK, hd⟩ := sop_ok (B := B) hT hops ho.1 h
      have ih := rwp_list2 hT hops l s' K ho.2 hK hQ
      obtain ⟨h1, h2⟩ := hd E a hG
      unfold wpListIn
      cases hw : Region.wanted o (yielded ops a.tmps) with
      | true =>
        rw [if_pos rfl]
        refine (h1 hw).wpIn fun v w' ⟨E', e, hG'⟩ => ?_
        subst e
        exact ih E' _ hG'
      | false =>
        rw [if_neg (by simp)]
        exact ⟨fun _ _ => trivial, ih E _ (h2 hw)⟩
    have gen : ∀ op, o.op = op → Region.wanted o (yielded ops a.tmps) = true → genK P B op o.dst s (fun s' => rwp P B T ops l s' K) ⟨⟩ → wpListIn (fen B.r) 0 P ops Q (o :: (l ++ l2)) a E.w := fun op hop hw h => by
      unfold wpListIn
      rw [if_pos hw]
      refine (h o E a hop rfl ho.1 hG).wpIn fun v w' ⟨E', s', e, hG', hK⟩ => ?_
      subst e
      exact rwp_list2 hT hops l s' K ho.2 hK hQ E' _ hG'
    have hm := opOk_mem ho.1
    have hev : ∀ E a, Gam P B s E a → ∀ y ∈ o.op.operands, RV E (ev (lkT s.tm) y) (a.eval y) := fun E a hG y hy => ev_ok hG.2 y (hm y hy)
    unfold rwp at h
    split at h
    · rename_i hg
      have hw : Region.wanted o (yielded ops a.tmps) = true := by simp [Region.wanted, hg]
      split at h
      · rename_i t asA ts hop
        unfold wpListIn
        rw [if_pos hw]
        exact slot_ok hop (fun E a hG => hev E a hG (.tmp t) (by simp [hop, Op.operands, Call.operands])) (fun E a hG => RVL.of_forall _ (fun x hx => hev E a hG x (by simp only [hop, Op.operands, Call.operands]; simp [Array.mem_toList_iff.1 hx]))) h (fun s' E' a' hK hG' => rwp_list2 hT hops l s' K ho.2 hK hQ E' a' hG') E a hG
      · rename_i f asA ts hop
        unfold wpListIn
        rw [if_pos hw]
        exact slot_ok hop (fv := .d (.c (.func (.func f) #[] #[]))) (fun E a hG => hev E a hG (.func f) (by simp [hop, Op.operands, Call.operands])) (fun E a hG => RVL.of_forall _ (fun x hx => hev E a hG x (by simp only [hop, Op.operands, Call.operands]; simp [Array.mem_toList_iff.1 hx]))) ⟨⟨rfl, rfl⟩, h⟩ (fun s' E' a' hK hG' => rwp_list2 hT hops l s' K ho.2 hK hQ E' a' hG') E a hG
      · rename_i t x hop; exact gen _ hop hw h
      · rename_i x y hop; exact gen _ hop hw h
      · rename_i x hop; exact gen _ hop hw h
      · exact plain h
    · rename_i g hg
      split at h
      · rename_i t asA ts hop
        split at h <;> try exact h.elim
        rename_i b hgo
        have hwb := gOf_ok (P := P) (o := o) hops hgo hG hg
        unfold wpListIn
        cases b with
        | true =>
          obtain ⟨hs, h⟩ := h.1 rfl
          simp only [allP] at hs
          rw [if_pos hwb]
          exact slot_ok hop (fun E a hG => strip_ok (b := true) rfl hs.1 (hev E a hG (.tmp t) (by simp [hop, Op.operands, Call.operands]))) (fun E a hG => RVL.of_forall (e := fun x => strip (ev (lkT s.tm) x)) _ (fun x hx => strip_ok (b := true) rfl (allP_mem hs.2 _ (List.mem_map_of_mem hx)) (hev E a hG x (by simp only [hop, Op.operands, Call.operands]; simp [Array.mem_toList_iff.1 hx])))) h (fun s' E' a' hK hG' => rwp_list2 hT hops l s' K ho.2 hK hQ E' a' hG') E a hG
        | false =>
          have h := h.2 rfl
          rw [if_neg (by rw [hwb]; simp)]
          refine ⟨fun _ _ => trivial, rwp_list2 hT hops l _ K ho.2 h hQ E _ ⟨hG.1, hG.2.put (by simp [RV]) ?_⟩⟩
          intro t' e
          have := ho.1
          simp only [opOk, Bool.and_eq_true] at this
          have := this.2
          rw [e] at this
          simpa using this
      · exact plain h
theorem rwp_list (hT : TabOk P T) (hops : ∀ o ∈ ops.toList, opOk B.N o = true) {Q : Exit → Act → World → Prop} (l : List Oper) (s : St) (K : St → Prop) (hl : (l.all (opOk B.N)) = true) (h : rwp P B T ops l s K) (hQ : ∀ s', K s' → ∀ E a, Gam P B s' E a → Q .normal a E.w) (E : Env) (a : Act) (hG : Gam P B s E a) : wpListIn (fen B.r) 0 P ops Q l a E.w := by
  have := rwp_list2 (l2 := []) hT hops l s K hl h hQ E a hG
  rwa [List.append_nil] at this
theorem aw_region {id : Nat} {l : List Oper} (hT : TabOk P T) (hl : (l.all (opOk B.N)) = true) (h : rwp P B T l.toArray l s (Q .normal)) : AW P B (.region id l.toArray false) Q ⟨⟩ s :=
  fun E a hG => wpIn_region_lit (rwp_list hT (fun o ho => List.all_eq_true.1 hl o ho) l s _ hl h (fun s' hs E a hG => ⟨E, s', rfl, hG, hs⟩) E a hG)
theorem aw_regionA {id : Nat} {ops : Array Oper} (hT : TabOk P T) (hl : (ops.toList.all (opOk B.N)) = true) (h : rwp P B T ops ops.toList s (Q .normal)) : AW P B (.region id ops false) Q ⟨⟩ s :=
  aw_region (l := ops.toList) hT hl h
theorem aw_seq {x y : Code} (h : AW P B x (fun e s' => match e with | .normal => AW P B y Q ⟨⟩ s' | e => Q e s') ⟨⟩ s) : AW P B (.seq x y) Q ⟨⟩ s := fun E a hG => by
  refine wpIn_seq (Code.wpIn_mono ?_ (h E a hG))
  rintro e a' w' ⟨E', s', rfl, hG', hq⟩
  cases e <;> first | exact hq E' a' hG' | exact ⟨E', s', rfl, hG', hq⟩
theorem aw_skip (h : Q .normal s) : AW P B .skip Q ⟨⟩ s := fun E a hG => wpIn_skip ⟨E, s, rfl, hG, h⟩
theorem aw_exit {id : Nat} (h : Q (.exit id) s) : AW P B (.exit id) Q ⟨⟩ s := fun E a hG => wpIn_exit ⟨E, s, rfl, hG, h⟩
theorem aw_ret (h : Q .ret s) : AW P B .ret Q ⟨⟩ s := fun E a hG => wpIn_ret ⟨E, s, rfl, hG, h⟩
theorem aw_block {id : Nat} {c : Code} (h : AW P B c (fun e s' => match e with | .exit i => (if i = id then Q .normal s' else Q (.exit i) s') | e => Q e s') ⟨⟩ s) : AW P B (.block id c) Q ⟨⟩ s := fun E a hG => by
  refine wpIn_block (Code.wpIn_mono ?_ (h E a hG))
  rintro e a' w' ⟨E', s', rfl, hG', hq⟩
  cases e with
  | exit i =>
    simp only [Exit.inBlock]
    simp only at hq
    split at hq
    · rename_i hi; rw [if_pos hi]; exact ⟨E', s', rfl, hG', hq⟩
    · rename_i hi; rw [if_neg hi]; exact ⟨E', s', rfl, hG', hq⟩
  | _ => exact ⟨E', s', rfl, hG', hq⟩
theorem aw_cond {c : Operand} {x y : Code} {b : Bool} (hc : ev (lkT s.tm) c = .d (.c (.bool b))) (hco : constOk B.N c = true) (h1 : b = true → AW P B x Q ⟨⟩ s) (h2 : b = false → AW P B y Q ⟨⟩ s) : AW P B (.cond c x y) Q ⟨⟩ s := fun E a hG => by
  have hv := ev_ok hG.2 c hco
  rw [hc] at hv
  simp only [RV, RD] at hv
  exact wpIn_cond_split hv (fun hb => h1 hb E a hG) (fun hb => h2 hb E a hG)
theorem aw_condM {c : Operand} {x y : Code} (hco : constOk B.N c = true) (h : match ev (lkT s.tm) c with | .d (.c (.bool b)) => Two b (AW P B x Q ⟨⟩ s) (AW P B y Q ⟨⟩ s) | _ => False) : AW P B (.cond c x y) Q ⟨⟩ s := by
  split at h <;> try exact h.elim
  rename_i b hc
  exact aw_cond hc hco h.1 h.2
theorem callK_intro {G : Prop} {st : Nat → Option Blk} {nm : Nat} {f : FuncId} {vs : List V} {K : HK} {asA : List A} {r : Ret} (h : Spec P f asA r) (ha : toAs vs = some asA) (hf : (P.funcs[f]?).any (fun fn => fn.name != "runtime.NumGoroutine" && fn.body.isSome) = true) (hK : K (ofRet r) none) : callK P G st nm f vs K ⟨⟩ := .inl ⟨asA, r, ha, fun _ => h, hf, hK⟩
theorem callK_fz {G : Prop} {st : Nat → Option Blk} {nm : Nat} {f : FuncId} {vs : List V} {K : HK} {asA : List A} {r : Ret} (h : Spec P f asA r) (hp : plR r = true) (ha : FzA P st vs asA) (hf : (P.funcs[f]?).any (fun fn => fn.name != "runtime.NumGoroutine" && fn.body.isSome) = true) (hK : K (ofRet r) none) : callK P G st nm f vs K ⟨⟩ := .inr (.inr ⟨asA, r, ha, fun _ => h, hf, hp, hK⟩)
/-- less may be known -/
theorem aw_weak {c : Code} {s1 : St} (h : ∀ E a, Gam P B s E a → ∃ E', E'.w = E.w ∧ Gam P B s1 E' a) (h1 : AW P B c Q ⟨⟩ s1) : AW P B c Q ⟨⟩ s := fun E a hG => by
  obtain ⟨E', e, hG'⟩ := h E a hG
  have := h1 E' a hG'
  rwa [e] at this
theorem lkT_n (t : Nat) : lkT [] t = .any := rfl
theorem lkT_c (u : Nat) (x : V) (l : List (Nat × V)) (t : Nat) : lkT ((u, x) :: l) t = if t = u then x else lkT l t := rfl
theorem lkB_n (t : Nat) : lkB [] t = none := rfl
theorem lkB_c (u : Nat) (x : Blk) (l : List (Nat × Blk)) (t : Nat) : lkB ((u, x) :: l) t = if t = u then some x else lkB l t := rfl
theorem dV_n : dV [] = [] := rfl
theorem dV_c (x : D) (l : List D) : dV (x :: l) = .d x :: dV l := rfl
theorem getD_enc {α : Type} (f : α → List D) (l : List α) (n : Nat) (d : α) : (l.map f).getD n (f d) = f (l.getD n d) := by simp only [List.getD_eq_getElem?_getD, List.getElem?_map]; cases l[n]? <;> rfl
theorem av_w {n : Int} (h : -9223372036854775808 ≤ n ∧ n ≤ 9223372036854775807) : IntKind.i64.wrap n = n := by
  simp only [IntKind.wrap, IntKind.signed, IntKind.bits]; simp; omega
theorem av_t1 (k : Nat) : ((k : Int) - 1).toNat = k - 1 := by omega
theorem av_tp (k : Nat) : ((k : Int) + 1).toNat = k + 1 := by omega
theorem av_n1 (b : Bool) : ((!b) = false) = (b = true) := by cases b <;> simp
theorem av_n2 (b : Bool) : ((!b) = true) = (b = false) := by cases b <;> simp
theorem av_bt (b : Bool) : (b == true) = b := by cases b <;> rfl
theorem av_bf (b : Bool) : (b == false) = !b := by cases b <;> rfl
theorem av_and (b c : Bool) : pickV b c false = (b && c) := by simp [pickV]
theorem av_or (b c : Bool) : pickV b true c = (b || c) := by cases b <;> simp [pickV]
theorem av_nf (b : Bool) : (b = false → (!b) = true) = True := by cases b <;> simp
theorem av_tt (p : Prop) : (p → p) = True := by simp
end
end Go.Proofs.Ytncihbmehbiekaa


namespace Go.Proofs.Ytncihbmehbiekaa
set_option linter.unusedVariables false
set_option linter.unusedSimpArgs false
open Go.RowKit
def resOne (tmps : Array Value) : ResultVar → Sem Value
  | .tmp t => pure (tmps.getD t undef)
  | .cell x t => do loadVar t (← asAddr (tmps.getD x undef))
theorem results_eq (fn : Func) (tmps : Array Value) : results fn tmps = (do
  let vs ← fn.results.mapM (resOne tmps)
  pure (if h : vs.size = 1 then vs[0] else .tuple vs)) := by
  unfold results
  congr 1
def inT : Nat → List A → List (Nat × V)
  | _, [] => []
  | k, a :: l => (k, ofA a) :: inT (k + 1) l
/-- a result's value -/
def resV (T : Tab) (st : List (Nat × Blk)) (tm : List (Nat × V)) (K : V → Prop) : ResultVar → Prop
  | .tmp t => K (lkT tm t)
  | .cell t u => match ty T u, lkT tm t with
    | some i, .ptr n off => match lkB st n with
      | some (.cells _ cs) => ldK True i (cs.drop off) (fun v _ => K v)
      | _ => False
    | _, _ => False
def retL (T : Tab) (st : List (Nat × Blk)) (tm : List (Nat × V)) : List ResultVar → (List V → Prop) → Prop
  | [], K => K []
  | r :: rs, K => resV T st tm (fun v => retL T st tm rs (fun vs => K (v :: vs))) r
/-- what is known of a says all that b says -/
def Sub (a b : A) : Prop := ∀ F w v, RA F w a v → RA F w b v
def SubL : List A → List A → Prop
  | [], [] => True
  | a :: asA, b :: bs => Sub a b ∧ SubL asA bs
  | _, _ => False
def RetOk : List A → Ret → Prop
  | [a], .r1 b => Sub a b
  | a :: a' :: asA, .rt bs => SubL (a :: a' :: asA) bs
  | [], .rt bs => SubL [] bs
  | _, _ => False
theorem Sub.refl (a : A) : Sub a a := fun _ _ _ h => h
theorem Sub.of_eq {a b : A} (h : a = b) : Sub a b := by subst h; exact Sub.refl a
theorem Sub.nil (sz : Nat) (d0 : List D) : Sub (.one (.c (.slice none 0 0))) (.one (.sl sz d0 [])) := fun F w v h => by
  simp only [RA, RD] at h
  subst h
  exact RD.nil_sl F w sz d0
theorem Sub.sl {sz : Nat} {d0 d1 : List D} {es es' : List (List D)} (h : es = es') : Sub (.one (.sl sz d0 es)) (.one (.sl sz d1 es')) := fun F w v hv => by
  subst h
  simpa only [RA, RD] using hv
theorem Sub.val {u v : Value} (h : u = v) : Sub (.one (.c u)) (.one (.c v)) := by subst h; exact Sub.refl _
/-- the results say what r says -/
def RetV (vs : List V) (r : Ret) : Prop := match toAs vs with
  | some asA => RetOk asA r
  | none => False
theorem RetV.get {vs : List V} {r : Ret} (h : RetV vs r) : ∃ asA, toAs vs = some asA ∧ RetOk asA r := by
  unfold RetV at h
  split at h
  · rename_i asA ha; exact ⟨asA, ha, h⟩
  · exact h.elim
def retQ (T : Tab) (rs : List ResultVar) (r : Ret) : AQ := fun e s => match e with
  | .normal | .ret => retL T s.st s.tm rs (fun vs => RetV vs r)
  | _ => False
section
variable {P : Program} {B : Base} {T : Tab}
theorem subL_ok {F : Ft} {w : World} : ∀ {asA bs : List A} {us : List Value}, SubL asA bs → RAL F w asA us → RAL F w bs us
  | [], [], us, _, h => h
  | a :: asA, b :: bs, us, h, hu => by
    simp only [RAL] at hu ⊢
    obtain ⟨u, r, rfl, h1, h2⟩ := hu
    exact ⟨u, r, rfl, h.1 F w u h1, subL_ok h.2 h2⟩
  | [], _ :: _, us, h, _ => by simp [SubL] at h
  | _ :: _, [], us, h, _ => by simp [SubL] at h
def rvOk (N : Nat) : ResultVar → Bool
  | .tmp t => decide (t < N)
  | .cell t _ => decide (t < N)
theorem GamT.get {tm : Nat → V} {E : Env} {a : Act} (h : GamT B tm E a) {t : Nat} (ht : t < B.N) : RV E (tm t) (a.tmps.getD t undef) := by
  have := h.tm t
  unfold vOf at this
  rwa [if_pos ht] at this
theorem resV_ok (hT : TabOk P T) {s : St} {K : V → Prop} {r : ResultVar} (hr : rvOk B.N r = true) (h : resV T s.st s.tm K r) : ∃ v, K v ∧ ∀ E a, Gam P B s E a → ∃ u, (resOne a.tmps r).run P E.w = .ok u E.w ∧ RV E v u := by
  cases r with
  | tmp t => exact ⟨_, h, fun E a hG => ⟨_, rfl, hG.2.get (by simpa [rvOk] using hr)⟩⟩
  | cell x t =>
    simp only [resV] at h
    split at h <;> try exact h.elim
    rename_i i n off hi htm
    split at h <;> try exact h.elim
    rename_i t' cs hst
    obtain ⟨v, hK, hv⟩ := ldK_val h
    refine ⟨v, hK, fun E a hG => ?_⟩
    have hr := hG.2.get (t := x) (by simpa [rvOk] using hr)
    rw [htm] at hr
    simp only [RV] at hr
    obtain ⟨b, hb1, hb2⟩ := hr
    obtain ⟨us, g1, g2, g3, g4⟩ := (hG.1.st n _ hst).cells_get (off := off) hb1
    obtain ⟨v', u, k1, k2, k3⟩ := ld_run (ty_ok hT hi) (g1.drop off) (fun u hu => g2 u (List.mem_of_mem_drop hu)) g4 (hv trivial (fun v' _ => v' = v) rfl)
    subst k1
    refine ⟨u, ?_, k3⟩
    simp only [Instr.loadAt, Instr.sureAddr, Sem.run_bind, Sem.run_pure, Result.andThen_ok] at k2
    simp only [resOne, hb2, asAddr, Sem.run_bind, Sem.run_pure, Result.andThen_ok, k2]
theorem retL_ok (hT : TabOk P T) {s : St} : ∀ {rs : List ResultVar} {K : List V → Prop}, (rs.all (rvOk B.N)) = true → retL T s.st s.tm rs K → ∃ vs, K vs ∧ vs.length = rs.length ∧ ∀ E a, Gam P B s E a → ∃ us, (rs.mapM (resOne a.tmps)).run P E.w = .ok us E.w ∧ RVL E vs us
  | [], K, _, h => ⟨[], h, rfl, fun E a hG => ⟨[], rfl, by simp [RVL]⟩⟩
  | r :: rs, K, ho, h => by
    simp only [retL] at h
    simp only [List.all_cons, Bool.and_eq_true] at ho
    obtain ⟨v, h1, h2⟩ := resV_ok (B := B) hT ho.1 h
    obtain ⟨vs, h3, h4, h5⟩ := retL_ok hT ho.2 h1
    refine ⟨v :: vs, h3, by simp [h4], fun E a hG => ?_⟩
    obtain ⟨u, k1, k2⟩ := h2 E a hG
    obtain ⟨us, k3, k4⟩ := h5 E a hG
    refine ⟨u :: us, ?_, by simp only [RVL]; exact ⟨u, us, rfl, k2, k4⟩⟩
    rw [List.mapM_cons, Sem.run_bind, k1, Result.andThen_ok, Sem.run_bind, k3]
    rfl
theorem results_run {fn : Func} {a : Act} {E : Env} {us : List Value} (h : (fn.results.toList.mapM (resOne a.tmps)).run P E.w = .ok us E.w) :
    (results fn a.tmps).run P E.w = .ok (if h : us.toArray.size = 1 then us.toArray[0] else .tuple us.toArray) E.w := by
  rw [results_eq, Array.mapM_eq_mapM_toList, Sem.run_bind]
  have : ((Functor.map List.toArray (fn.results.toList.mapM (resOne a.tmps))) : Sem (Array Value)).run P E.w = .ok us.toArray E.w := by
    rw [map_eq_pure_bind, Sem.run_bind, h]; rfl
  rw [this]
  rfl
theorem inT_ok {E : Env} : ∀ {asA : List A} {us : List Value} {k : Nat}, RAL E.F E.w asA us → ∀ t, (t < k → lkT (inT k asA) t = .any) ∧ ∀ j, t = k + j → RV E (lkT (inT k asA) t) (us.getD j undef)
  | [], us, k, h, t => ⟨fun _ => rfl, fun _ _ => by simp [inT, lkT, RV]⟩
  | a :: asA, us, k, h, t => by
    simp only [RAL] at h
    obtain ⟨u, r, rfl, h1, h2⟩ := h
    obtain ⟨i1, i2⟩ := inT_ok (k := k + 1) h2 t
    refine ⟨fun ht => ?_, fun j hj => ?_⟩
    · simp only [inT, lkT]
      rw [if_neg (by omega)]
      exact i1 (by omega)
    · simp only [inT, lkT]
      cases j with
      | zero => rw [if_pos (by omega)]; exact ofA_ok h1
      | succ j => rw [if_neg (by omega)]; simpa using i2 j (by omega)
theorem RAL.len {F : Ft} {w : World} : ∀ {asA : List A} {us : List Value}, RAL F w asA us → us.length = asA.length
  | [], us, h => by simp only [RAL] at h; simp [h]
  | a :: asA, us, h => by
    simp only [RAL] at h
    obtain ⟨u, r, rfl, _, h2⟩ := h
    simp [RAL.len h2]
/-- a loop's deferred calls are taken -/
theorem GamS.take {σ : Nat → Option Blk} {fr : Nat → Prop} {E : Env} {D : Nat} (h : GamS P B σ fr E) (hD : E.dp D) :
    ∃ E', E' = ⟨E.η, E.F, E.w.putObj D (.deferred none), fun X => E.dp X ∧ X ≠ D⟩ ∧ GamS P B σ fr E' ∧ Ext E E' := by
  obtain ⟨d1, d2, d3, d4⟩ := h.dp D hD
  have other : ∀ i, i ≠ D → (E.w.putObj D (.deferred none)).heap[i]? = E.w.heap[i]? := fun i hi => World.putObj_heap_other hi
  have hsz : (E.w.putObj D (.deferred none)).heap.size = E.w.heap.size := by simp [World.putObj]
  have hext : Ext E ⟨E.η, E.F, E.w.putObj D (.deferred none), fun X => E.dp X ∧ X ≠ D⟩ := ⟨fun _ _ h => h, Ft.le_refl _, .of_blocks (fun i o hi => other i (fun e => by subst e; exact d4 o hi)) (fun i hi => other i (fun e => by subst e; exact d3 hi))⟩
  refine ⟨_, rfl, ⟨h.os, h.tape, h.output, by show _ ≤ (E.w.putObj D (.deferred none)).heap.size; rw [hsz]; exact h.size, fun i hi hS => ?_, h.F0, fun i o hi => ?_, fun i hi => ?_, fun m y hy => ?_, h.dist, h.fresh, fun X hX => ?_⟩, hext⟩
  · exact (other i (fun e => by subst e; rcases d2 with h6 | h6; omega; exact hS h6)).trans (h.old i hi hS)
  · show _ ∧ i < (E.w.putObj D (.deferred none)).heap.size
    rw [hsz]; exact h.Fc i o hi
  · show _ ∧ i < (E.w.putObj D (.deferred none)).heap.size
    rw [hsz]; exact h.Fm i hi
  · exact (h.st m y hy).keep (fun _ h => h) hext (Nat.le_of_eq hsz.symm) (fun v' b' hv' hb' _ => other b' (fun e => by subst e; exact (h.st m y hy).nodp hv' hb' d1)) (fun v' b' p' _ _ hok' => ⟨hok'.1, by show b' < (E.w.putObj D (.deferred none)).heap.size; rw [hsz]; exact hok'.2.1, hok'.2.2.1, hok'.2.2.2⟩)
  · obtain ⟨e1, e2⟩ := h.dp X hX.1
    exact ⟨(other X hX.2).trans e1, e2⟩
/-- a frame's marks, at its end -/
theorem leaves_of {fn : Func} {R : Ending → World → Prop} {σ : Nat → Option Blk} {fr : Nat → Prop} : ∀ (ds : List Nat) (E : Env), GamS P B σ fr E → ds.Nodup → (∀ D ∈ ds, E.dp D) → ∀ tmps,
    ∃ E', GamS P B σ fr E' ∧ Ext E E' ∧ (∀ X, E.dp X → X ∉ ds → E'.dp X) ∧ ∀ v, (results fn tmps).run P E'.w = .ok v E'.w → R (.returned v) E'.w → LeavesInM Fence.wide 0 P fn tmps R (ds.map mark) .returning E.w
  | [], E, h, _, _, tmps => ⟨E, h, Ext.refl E, fun _ h _ => h, fun v h1 h2 => ⟨v, h1, h2⟩⟩
  | D :: ds, E, h, hn, hd, tmps => by
    obtain ⟨hn1, hn2⟩ := List.nodup_cons.1 hn
    obtain ⟨E1, e1, h1, x1⟩ := h.take (hd D (by simp))
    have hd1 : ∀ X ∈ ds, E1.dp X := fun X hX => by subst e1; exact ⟨hd X (by simp [hX]), fun e => hn1 (by rw [← e]; exact hX)⟩
    obtain ⟨E2, h2, x2, k2, r2⟩ := leaves_of (fn := fn) (R := R) ds E1 h1 hn2 hd1 tmps
    refine ⟨E2, h2, x1.trans x2, fun X hX hXn => k2 X (by subst e1; exact ⟨hX, fun e => hXn (by simp [e])⟩) (fun e => hXn (by simp [e])), fun v g1 g2 => ?_⟩
    refine ⟨by simp, .inl ⟨D, E1.w, rfl, ?_, r2 v g1 g2⟩⟩
    subst e1
    exact run_takeDeferred (h.dp D (hd D (by simp))).1
theorem gam_in {N : Nat} {asA : List A} {F : Ft} {w : World} {us : List Value} (hF : F.lt w) (h : RAL F w asA us) (hN : asA.length ≤ N) : Gam P ⟨w, fun _ => False, F, N, fun _ => undef, none, fun _ => False⟩ ⟨inT 0 asA, [], 0⟩ ⟨fun _ => none, F, w, fun _ => False⟩ ⟨us.toArray ++ Array.replicate (N - us.toArray.size) undef, []⟩ := by
  have hl := h.len
  refine ⟨⟨rfl, rfl, rfl, Nat.le_refl _, fun _ _ _ => rfl, Ft.le_refl _, fun b o hb => ⟨.inl hb, hF.1 b o hb⟩, fun b hb => ⟨.inl hb, hF.2 b hb⟩, fun n x hx => (by cases hx), (fun n m x y b v u _ hx => by cases hx), fun _ _ => rfl, fun D hD => hD.elim⟩, fun t => ?_, ⟨[], rfl, List.nodup_nil, fun D hD => (by cases hD), fun D hD => hD.elim⟩, by simp; omega⟩
  have := (inT_ok (E := ⟨fun _ => none, F, w, fun _ => False⟩) (k := 0) h t).2 t (by omega)
  have e : (us.toArray ++ Array.replicate (N - us.toArray.size) undef).getD t undef = us.getD t undef := by
    simp only [Array.getD_eq_getD_getElem?, List.getD_eq_getElem?_getD, Array.getElem?_append, List.size_toArray]
    by_cases ht : t < us.length
    · rw [if_pos ht]; simp
    · rw [if_neg ht, List.getElem?_eq_none (by omega), Array.getElem?_replicate]
      split <;> rfl
  have ev : vOf ⟨w, fun _ => False, F, N, fun _ => undef, none, fun _ => False⟩ ⟨us.toArray ++ Array.replicate (N - us.toArray.size) undef, []⟩ t = us.getD t undef := by
    unfold vOf
    split
    · exact e
    · rename_i hN'
      have : us.getD t undef = undef := by simp [List.getD_eq_getElem?_getD, List.getElem?_eq_none (show us.length ≤ t by have : ¬ t < N := hN'; omega)]
      rw [this]
  rw [ev]
  exact this
/-- a function's contract out of its walk -/
theorem spec_of {f : FuncId} {fn : Func} {c : Code} {asA : List A} {r : Ret} {rs : List ResultVar} {N : Nat} (hT : TabOk P T) (hf : P.funcs[f]? = some fn) (hN : fn.ntmps = N) (hb : fn.body = some c) (hr : fn.results = rs.toArray) (hn : asA.length ≤ fn.ntmps)
    (h : ∀ (w : World) (F : Ft), AW P ⟨w, fun _ => False, F, N, fun _ => undef, none, fun _ => False⟩ c (retQ T rs r) ⟨⟩ ⟨inT 0 asA, [], 0⟩) (hrs : (rs.all (rvOk fn.ntmps)) = true := by kernel_rfl) : Spec P f asA r := by
  subst hN
  intro F w us hF hus
  refine callsIn_wide.1 (callsIn_of_wp_marks (F := Fence.wide) (n := 0) hf hb trivial (Code.wpIn_mono ?_ (h w F ⟨fun _ => none, F, w, fun _ => False⟩ _ (gam_in hF hus hn))) rfl)
  rintro e a' w' ⟨E0, s', rfl, hG0, hq⟩
  have key : retL T s'.st s'.tm rs (fun vs => RetV vs r) → LeavesInM Fence.wide 0 P fn a'.tmps (fun e w' => ∃ v F', e = .returned v ∧ Below w.heap.size w w' ∧ FtNew F F' w w' ∧ RRet F' w' r v) a'.defers .returning E0.w := fun hrr => by
    obtain ⟨ds, hds, hnd, hdp, _⟩ := hG0.2.defers
    obtain ⟨E', hS, hX, _, hL⟩ := leaves_of (fn := fn) (R := fun e w' => ∃ v F', e = .returned v ∧ Below w.heap.size w w' ∧ FtNew F F' w w' ∧ RRet F' w' r v) ds E0 hG0.1 hnd (fun D hD => (hdp D hD).1) a'.tmps
    have hG : Gam P ⟨w, fun _ => False, F, fn.ntmps, fun _ => undef, none, fun _ => False⟩ s' E' ⟨a'.tmps, []⟩ := ⟨hS, fun t => RV.mono hX _ _ (hG0.2.tm t), ⟨[], rfl, List.nodup_nil, fun D hD => (by cases hD), fun D hD => hD.elim⟩, hG0.2.size⟩
    obtain ⟨vs, h12, h3, h4⟩ := retL_ok (B := ⟨w, fun _ => False, F, fn.ntmps, fun _ => undef, none, fun _ => False⟩) hT hrs hrr
    obtain ⟨asA', h1, h2⟩ := h12.get
    obtain ⟨us', h5, h6⟩ := h4 E' ⟨a'.tmps, []⟩ hG
    have h5 : (fn.results.toList.mapM (resOne a'.tmps)).run P E'.w = .ok us' E'.w := by rw [hr]; exact h5
    have h7 := toAs_ok h1 h6
    rw [hds]
    refine hL _ (results_run (a := ⟨a'.tmps, []⟩) h5) ?_
    refine ⟨_, E'.F, rfl, ⟨hG.1.os, hG.1.tape, hG.1.output, hG.1.size, fun b hb => hG.1.old b hb (fun h => h)⟩, ⟨hG.1.F0, fun b o hb => ?_, fun b hb => ?_⟩, ?_⟩
    · have := hG.1.Fc b o hb
      rcases this.1 with h8 | h8 | h8
      · exact .inl h8
      · exact .inr ⟨h8, this.2⟩
      · exact h8.elim
    · have := hG.1.Fm b hb
      rcases this.1 with h8 | h8 | h8
      · exact .inl h8
      · exact .inr ⟨h8, this.2⟩
      · exact h8.elim
    · have hl := h7.len
      unfold RetOk at h2
      split at h2
      · rename_i a b
        simp only [RAL] at h7
        obtain ⟨u, r', rfl, h8, rfl⟩ := h7
        exact h2 _ _ _ h8
      · rename_i a a2 as2 bs
        have hne : ¬ us'.toArray.size = 1 := by simp at hl ⊢; omega
        rw [dif_neg hne]
        exact ⟨us', rfl, subL_ok h2 h7⟩
      · have hl0 : us'.length = 0 := by simpa using hl
        have hne : ¬ us'.toArray.size = 1 := by simp only [List.size_toArray]; omega
        rw [dif_neg hne]
        exact ⟨us', rfl, subL_ok h2 h7⟩
      · exact h2.elim
  cases e <;> simp only [retQ] at hq <;> first | exact hq.elim | exact key hq
end
end Go.Proofs.Ytncihbmehbiekaa


namespace Go.Proofs.Ytncihbmehbiekaa
set_option linter.unusedVariables false
set_option linter.unusedSimpArgs false
open Go.RowKit
section
variable {P : Program} {B : Base} {T : Tab} {ops : Array Oper}
theorem GamS.congr {σ σ' : Nat → Option Blk} {fr fr' : Nat → Prop} {E : Env} (h : GamS P B σ fr E) (hσ : ∀ n, σ' n = σ n) (hf : ∀ n, fr' n → fr n) : GamS P B σ' fr' E := by
  have : σ' = σ := funext hσ
  subst this
  exact ⟨h.os, h.tape, h.output, h.size, h.old, h.F0, h.Fc, h.Fm, h.st, h.dist, fun n hn => h.fresh n (hf n hn), h.dp⟩
theorem GamS.none_of_fresh {σ : Nat → Option Blk} {fr : Nat → Prop} {E : Env} (h : GamS P B σ fr E) {n : Nat} (hn : fr n) : σ n = none := by
  cases hq : σ n with
  | none => rfl
  | some y =>
    have := h.st _ _ hq
    have hno := h.fresh n hn
    cases y with
    | cells t cs => obtain ⟨b, us, e1, _⟩ := this; rw [hno] at e1; cases e1
    | tok e sz len => obtain ⟨v, us, e1, _⟩ := this; rw [hno] at e1; cases e1
    | row e sz d0 es => obtain ⟨v, us, e1, _⟩ := this; rw [hno] at e1; cases e1
    | map q k zv z0 es => obtain ⟨b, ms, clock, e1, _⟩ := this; rw [hno] at e1; cases e1
    | loop L st pe => obtain ⟨b, rec, e1, _⟩ := this; rw [hno] at e1; cases e1
    | raw b0 o0 => obtain ⟨v, e1, _⟩ := this; rw [hno] at e1; cases e1
theorem GamT.putF {tm tm' : Nat → V} {E : Env} {a : Act} {d : Option Tmp} {v : V} {u : Value} (h : GamT B tm E a) (hu : ∀ t, d = some t → RV E v u ∧ t < B.N) (ht : ∀ t, tm' t = if d = some t then v else tm t) : GamT B tm' E (a.put d u) := by
  cases d with
  | none => exact ⟨fun t => by rw [ht, if_neg (by simp)]; exact h.tm t, h.defers, h.size⟩
  | some t =>
    obtain ⟨hu, hlt⟩ := hu t rfl
    refine ⟨fun k => ?_, h.defers, by simp [Act.put, h.size]⟩
    rw [ht]
    rw [vOf_put h.size (fun t' e => by injection e with e; subst e; exact hlt)]
    by_cases hk : some t = some k
    · rw [if_pos hk, if_pos hk]
      exact hu
    · rw [if_neg hk, if_neg hk]
      exact h.tm k
/-- one operation of the head: whatever else has run already -/
def HF (P : Program) (B : Base) (ops : Array Oper) (o : Oper) (tmi : Nat → V) (st0 : Nat → Option Blk) (nm : Nat) (v : V) (x : Option Blk) : Prop :=
  ∀ (tm : Nat → V) (σ : Nat → Option Blk) (fr : Nat → Prop) (E : Env) (a : Act), GamS P B σ fr E → GamT B tm E a → fr nm → (∀ n b, st0 n = some b → σ n = some b) → (∀ t ∈ o.looksAt ops, tm t = tmi t) →
    (Region.wanted o (yielded ops a.tmps) = true → Upon P (fun u w' => ∃ E', E'.w = w' ∧ GamS P B (fun n => if n = nm then x else σ n) (fun n => fr n ∧ (x.isSome = true → n ≠ nm)) E' ∧ Ext E E' ∧ E'.dp = E.dp ∧ RV E' v u) ((execOp a.eval o).run P E.w)) ∧
    (Region.wanted o (yielded ops a.tmps) = false → x = none ∧ RV E v undef)
theorem ev_congr {tm tm' : Nat → V} {o : Oper} (h : ∀ t ∈ o.looksAt ops, tm t = tm' t) {y : Operand} (hy : y ∈ o.op.operands) : ev tm y = ev tm' y := by
  cases y <;> simp only [ev]
  rename_i t
  refine h t ?_
  unfold Oper.looksAt
  refine List.mem_append.2 (.inl (List.mem_filterMap.2 ⟨.tmp t, by simpa using hy, rfl⟩))
theorem hf_next {o : Oper} {tmi : Nat → V} {st0 : Nat → Option Blk} {nm : Nat} {v : V} {x : Option Blk} (hc : (o.op.operands.toList.all (constOk B.N)) = true) (hg : o.guard = none) (h : HD P o (ev tmi) st0 nm v x) : HF P B ops o tmi st0 nm v x := by
  intro tm σ fr E a hS hT hfr hst hag
  have hw : Region.wanted o (yielded ops a.tmps) = true := by simp [Region.wanted, hg]
  refine ⟨fun _ => ?_, fun h' => by rw [hw] at h'; cases h'⟩
  refine (h B E a.eval (fun y hy => by rw [← ev_congr hag hy]; exact ev_ok hT y (List.all_eq_true.1 hc y (by simpa using hy))) (fun f => rfl) (fun n b hb => hS.st n b (hst n b hb)) hS.lt hS.size (hS.fresh _ hfr)).mono ?_
  rintro u w' ⟨E', hw', hs, hv, hn⟩
  have hσn := hS.none_of_fresh hfr
  exact ⟨E', hw', hS.head hs hn hfr (fun n => by
    by_cases hnn : n = nm
    · rw [if_pos hnn, if_pos hnn]; cases x with
      | none => exact hσn.symm
      | some y => rfl
    · rw [if_neg hnn, if_neg hnn]) hσn (fun n hn' => hn'), hs.ext hS.lt (hS.fresh _ hfr), hs.dp, hv⟩
theorem gOf_okF {o : Oper} {tm : Nat → V} {g : Nat × Bool} {b : Bool} {E : Env} {a : Act} (hops : ∀ o ∈ ops.toList, opOk B.N o = true) (h : gOf ops tm g = some b) (hT : GamT B tm E a) (hg : o.guard = some g) : Region.wanted o (yielded ops a.tmps) = b := by
  unfold gOf at h
  split at h
  · rename_i d hd
    have hdo : ∃ og, ops[g.1]? = some og ∧ og.dst = some d := by
      cases ho : ops[g.1]? with
      | none => rw [ho] at hd; cases hd
      | some og => rw [ho] at hd; exact ⟨og, rfl, by simpa using hd⟩
    obtain ⟨og, ho, hdst⟩ := hdo
    have hv := hT.tm d
    rw [vOf_dst hops ⟨og, ho, hdst⟩] at hv
    have hy : yielded ops a.tmps g.1 = match a.tmps.getD d undef with | .bool b => some b | _ => none := by
      simp only [yielded, ho, Option.bind_some, hdst]
      cases hq : a.tmps[d]? with
      | none => simp [Array.getD_eq_getD_getElem?, hq, undef]
      | some q => simp only [Array.getD_eq_getD_getElem?, hq, Option.getD_some]; cases q <;> rfl
    have hw : Region.wanted o (yielded ops a.tmps) = (yielded ops a.tmps g.1 == some g.2) := by
      unfold Region.wanted; rw [hg]
    rw [hw, hy]
    split at h
    · rename_i b' hb'
      cases h
      rw [hb'] at hv
      simp only [RV, RD] at hv
      rw [hv]
      simp
    · rename_i h' b' hb'
      cases h
      rw [hb'] at hv
      simp only [RV, RD] at hv
      cases h' with
      | true => rw [hv.1 rfl]; simp
      | false => rw [hv.2 rfl]; simp [undef]
    · cases h
  · cases h
theorem hf_guard {o : Oper} {tmi : Nat → V} {st0 : Nat → Option Blk} {nm : Nat} {g : Nat × Bool} {b : Bool} {v v' : V} {x : Option Blk} (hops : ∀ o ∈ ops.toList, opOk B.N o = true) (hc : (o.op.operands.toList.all (constOk B.N)) = true) (hg : o.guard = some g) (hgo : gOf ops tmi g = some b)
    (h : b = true → HD P o (ev tmi) st0 nm v x) (hv' : ∀ E E' u, E'.η = E.η ∨ True → RV E v u → E'.F = E.F → E'.w = E.w → E'.dp = E.dp → (x = none → E'.η = E.η) → RV E' v' u) : HF P B ops o tmi st0 nm (.cond b v') none := by
  intro tm σ fr E a hS hT hfr hst hag
  have hgo' : gOf ops tm g = some b := by
    rw [← hgo]
    unfold gOf
    cases hd : (ops[g.1]?).bind (·.dst) with
    | none => rfl
    | some d =>
      have : d ∈ o.looksAt ops := by
        unfold Oper.looksAt
        rw [hg]
        refine List.mem_append.2 (.inr ?_)
        simp only [hd]
        simp
      simp only [hag d this]
  have hw := gOf_okF (o := o) hops hgo' hT hg
  refine ⟨fun hw1 => ?_, fun hw1 => ?_⟩
  · rw [hw] at hw1
    refine (h hw1 B E a.eval (fun y hy => by rw [← ev_congr hag hy]; exact ev_ok hT y (List.all_eq_true.1 hc y (by simpa using hy))) (fun f => rfl) (fun n b hb => hS.st n b (hst n b hb)) hS.lt hS.size (hS.fresh _ hfr)).mono ?_
    rintro u w' ⟨E', hw', hs, hv, hn⟩
    let E2 : Env := ⟨E.η, E'.F, E'.w, E.dp⟩
    have hs2 : HStep E E2 nm := ⟨hs.by_, fun _ _ => rfl, hs.F, rfl⟩
    have hno := hS.fresh nm hfr
    have hσn := hS.none_of_fresh hfr
    refine ⟨E2, hw', hS.head (x := none) hs2 rfl hfr (fun n => by
      by_cases hnn : n = nm
      · rw [if_pos hnn, if_pos hnn]; exact hσn.symm
      · rw [if_neg hnn, if_neg hnn]) hσn (fun n hn' => hn'), hs2.ext hS.lt hno, rfl, ?_⟩
    simp only [RV]
    refine ⟨fun _ => hv' E' E2 u (.inr trivial) hv (by rfl) (by rfl) hs.dp.symm (fun hx => ?_), fun hb => by rw [hw1] at hb; cases hb⟩
    subst hx
    simp only [NewB] at hn
    funext n
    by_cases hnn : n = nm
    · subst hnn; exact hn.symm
    · exact (hs.η n hnn).symm
  · rw [hw] at hw1
    refine ⟨rfl, ?_⟩
    simp only [RV]
    exact ⟨fun hb => (by rw [hw1] at hb; cases hb), fun _ => trivial⟩
/-- one operation of the head, evaluated -/
def hopH (P : Program) (T : Tab) (ops : Array Oper) (o : Oper) (tm : List (Nat × V)) (st0 : List (Nat × Blk)) (nm : Nat) (K : V → Option Blk → Prop) : Prop :=
  match o.guard with
  | none => hop P T True o.op (ev (lkT tm)) (lkB st0) nm K
  | some g => match gOf ops (lkT tm) g with
    | some b => gop P T b o.op (ev (lkT tm)) (lkB st0) nm (fun v x => match x, v with
      | none, v => K (.cond b v) none
      | some _, .ow _ sz d0 es => K (.cond b (.d (.sl sz d0 es))) none
      | _, _ => False)
    | none => False
theorem hopH_ok (hT : TabOk P T) {o : Oper} {tm : List (Nat × V)} {st0 : List (Nat × Blk)} {nm : Nat} {K : V → Option Blk → Prop} (hops : ∀ o ∈ ops.toList, opOk B.N o = true) (hc : (o.op.operands.toList.all (constOk B.N)) = true) (h : hopH P T ops o tm st0 nm K) : ∃ v x, K v x ∧ HF P B ops o (lkT tm) (lkB st0) nm v x := by
  unfold hopH at h
  split at h
  · rename_i hg
    obtain ⟨v, x, hK, hd⟩ := hop_ok hT h
    exact ⟨v, x, hK, hf_next hc hg (hd trivial)⟩
  · rename_i g hg
    split at h <;> try exact h.elim
    rename_i b hgo
    obtain ⟨v, x, hK, hd⟩ := gop_ok hT h
    split at hK
    · exact ⟨_, none, hK, hf_guard hops hc hg hgo hd (fun E E' u _ hv hF hw hdp hη => by
        have : E' = E := by
          cases E; cases E'
          have hη := hη rfl
          simp only at hF hw hη hdp
          rw [hF, hw, hη, hdp]
        rw [this]; exact hv)⟩
    · refine ⟨_, none, hK, hf_guard hops hc hg hgo hd (fun E E' u _ hv hF hw hdp hη => ?_)⟩
      simp only [RV] at hv ⊢
      rw [hF, hw]
      exact hv.2
    · exact hK.elim
def addN (n : Nat) (x : Option Blk) (l : List (Nat × Blk)) : List (Nat × Blk) := match x with
  | none => l
  | some b => (n, b) :: l
/-- the head -/
def hwp (P : Program) (T : Tab) (ops : Array Oper) (st0 : List (Nat × Blk)) (nx : Nat) : List (Nat × Oper) → List (Nat × V) → List (Nat × Blk) → (List (Nat × V) → List (Nat × Blk) → Prop) → Prop
  | [], tm, nb, K => K tm nb
  | (i, o) :: l, tm, nb, K => hopH P T ops o tm st0 (nx + i) (fun v x => hwp P T ops st0 nx l (put o.dst v tm) (addN (nx + i) x nb) K)
def HRun (P : Program) (B : Base) (ops : Array Oper) (st0 : List (Nat × Blk)) (nx : Nat) (tmF : List (Nat × V)) (nbF : List (Nat × Blk)) : List (Nat × Oper) → List (Nat × V) → List (Nat × Blk) → Prop
  | [], tm, nb => tmF = tm ∧ nbF = nb
  | (i, o) :: l, tm, nb => ∃ v x, HF P B ops o (lkT tm) (lkB st0) (nx + i) v x ∧ HRun P B ops st0 nx tmF nbF l (put o.dst v tm) (addN (nx + i) x nb)
theorem hwp_ok (hT : TabOk P T) {st0 : List (Nat × Blk)} {nx : Nat} {K : List (Nat × V) → List (Nat × Blk) → Prop} (hops : ∀ o ∈ ops.toList, opOk B.N o = true) : ∀ (l : List (Nat × Oper)) (tm : List (Nat × V)) (nb : List (Nat × Blk)), (l.all fun p => p.2.op.operands.toList.all (constOk B.N)) = true → hwp P T ops st0 nx l tm nb K → ∃ tmF nbF, K tmF nbF ∧ HRun P B ops st0 nx tmF nbF l tm nb
  | [], tm, nb, _, h => ⟨tm, nb, h, rfl, rfl⟩
  | (i, o) :: l, tm, nb, hc, h => by
    simp only [List.all_cons, Bool.and_eq_true] at hc
    obtain ⟨v, x, h1, h2⟩ := hopH_ok (B := B) hT hops hc.1 h
    obtain ⟨tmF, nbF, h3, h4⟩ := hwp_ok hT hops l _ _ hc.2 h1
    exact ⟨tmF, nbF, h3, v, x, h2, h4⟩
theorem lkT_put {d : Option Tmp} {v : V} {l : List (Nat × V)} (t : Nat) : lkT (put d v l) t = if d = some t then v else lkT l t := by
  cases d with
  | none => simp [put]
  | some k =>
    simp only [put, lkT_setT]
    by_cases h : t = k
    · subst h; simp
    · rw [if_neg h, if_neg (fun e => h (by injection e with e; exact e.symm))]
theorem lkB_addN {m : Nat} {x : Option Blk} {l : List (Nat × Blk)} (n : Nat) : lkB (addN m x l) n = if n = m ∧ x.isSome = true then x else lkB l n := by
  cases x with
  | none => simp [addN]
  | some b =>
    simp only [addN, lkB]
    by_cases h : n = m <;> simp [h]
def incr : List (Nat × Oper) → Bool
  | [] => true
  | (i, o) :: l => (l.all fun p => decide (i < p.1) && (match o.dst with | some d => p.2.dst != some d | none => true)) && incr l
theorem hrun_facts {st0 : List (Nat × Blk)} {nx : Nat} {tmF : List (Nat × V)} {nbF : List (Nat × Blk)} : ∀ (l : List (Nat × Oper)) (tm : List (Nat × V)) (nb : List (Nat × Blk)), incr l = true → HRun P B ops st0 nx tmF nbF l tm nb →
    (∀ t, (∀ p ∈ l, p.2.dst ≠ some t) → lkT tmF t = lkT tm t) ∧ (∀ n, (∀ p ∈ l, n ≠ nx + p.1) → lkB nbF n = lkB nb n) ∧
    ∀ p ∈ l, ∃ tmi v x, HF P B ops p.2 tmi (lkB st0) (nx + p.1) v x ∧ (∀ d, p.2.dst = some d → lkT tmF d = v) ∧ (lkB nb (nx + p.1) = none → lkB nbF (nx + p.1) = x) ∧
      (∀ t, ∀ q ∈ l, q.1 < p.1 → q.2.dst = some t → tmi t = lkT tmF t) ∧ (∀ t, (∀ q ∈ l, q.1 < p.1 → q.2.dst ≠ some t) → tmi t = lkT tm t)
  | [], tm, nb, _, h => by
    obtain ⟨rfl, rfl⟩ := h
    exact ⟨fun _ _ => rfl, fun _ _ => rfl, fun p hp => by cases hp⟩
  | (i, o) :: l, tm, nb, hi, h => by
    simp only [incr, Bool.and_eq_true] at hi
    obtain ⟨v, x, h1, h2⟩ := h
    obtain ⟨f1, f2, f3⟩ := hrun_facts l _ _ hi.2 h2
    have hlt : ∀ p ∈ l, i < p.1 := fun p hp => by have := List.all_eq_true.1 hi.1 p hp; simp at this; exact this.1
    have hne : ∀ p ∈ l, ∀ d, o.dst = some d → p.2.dst ≠ some d := fun p hp d hd => by
      have := List.all_eq_true.1 hi.1 p hp
      rw [hd] at this
      simp at this
      exact this.2
    refine ⟨fun t ht => ?_, fun n hn => ?_, fun p hp => ?_⟩
    · rw [f1 t (fun p hp => ht p (by simp [hp])), lkT_put, if_neg (ht (i, o) (by simp))]
    · rw [f2 n (fun p hp => hn p (by simp [hp])), lkB_addN, if_neg (fun e => hn (i, o) (by simp) e.1)]
    · rcases List.mem_cons.1 hp with rfl | hp'
      · refine ⟨lkT tm, v, x, h1, fun d hd => ?_, fun hnb => ?_, fun t q hq hlt' => ?_, fun t _ => rfl⟩
        · rw [f1 d (fun p hp => hne p hp d hd), lkT_put, if_pos hd]
        · rw [f2 (nx + i) (fun p hp e => by have := hlt p hp; omega), lkB_addN]
          cases x with
          | none => simp [hnb]
          | some b => simp
        · rcases List.mem_cons.1 hq with rfl | hq
          · exact (Nat.lt_irrefl _ hlt').elim
          · have := hlt q hq; omega
      · obtain ⟨tmi, v', x', g1, g2, g3, g4, g5⟩ := f3 p hp'
        have hip := hlt p hp'
        refine ⟨tmi, v', x', g1, g2, fun hnb => g3 ?_, fun t q hq hql hqt => ?_, fun t ht => ?_⟩
        · rw [lkB_addN, if_neg (by rintro ⟨e, _⟩; omega)]; exact hnb
        · rcases List.mem_cons.1 hq with rfl | hq
          · have hqt' : o.dst = some t := hqt
            rw [g5 t (fun r hr _ => hne r hr t hqt'), f1 t (fun r hr => hne r hr t hqt')]
          · exact g4 t q hq hql hqt
        · rw [g5 t (fun q hq hql => ht q (by simp [hq]) hql), lkT_put, if_neg (ht (i, o) (by simp) hip)]
end
end Go.Proofs.Ytncihbmehbiekaa


namespace Go.Proofs.Ytncihbmehbiekaa
set_option linter.unusedVariables false
set_option linter.unusedSimpArgs false
open Go.RowKit
def canonH (n : Nat) (hd : List Nat) : Array Bool := hd.foldl (fun a i => a.setIfInBounds i true) (Array.replicate n false)
/-- whether one walk, the head in the order of the text, then the tail, serves every order -/
def drawOk (l : List Oper) (hd tail : List Nat) : Bool :=
  sinkT .any l.toArray (fun i => hd.contains i) && tail.all (fun t => !hd.contains t) && (List.range l.length).all (fun i => hd.contains i || tail.contains i) && hd.all (fun i => decide (i < l.length)) && decide hd.Nodup &&
  (List.range l.length).all (fun i => match l[i]? with | some o => o.after.toList.all fun e => !Region.binds .any e || decide (e.on < i) | none => true) && incr (pickOps l hd) &&
  (pickOps l hd).all (fun p => (p.2.looksAt l.toArray).all fun t => (pickOps l hd).all fun q => q.2.dst != some t || (if q.1 < p.1 then reachB .any l.toArray l.length p.1 q.1 else decide (p.1 < q.1) && reachB .any l.toArray l.length q.1 p.1)) &&
  seqT .any l.toArray tail (canonH l.length hd) && decide (hd.length + tail.length = l.length)
theorem foldl_canon : ∀ (hd : List Nat) (a : Array Bool) (i : Nat), (hd.foldl (fun a i => a.setIfInBounds i true) a).size = a.size ∧ (hd.foldl (fun a i => a.setIfInBounds i true) a).getD i false = (a.getD i false || (hd.contains i && decide (i < a.size)))
  | [], a, i => by simp
  | k :: hd, a, i => by
    obtain ⟨h1, h2⟩ := foldl_canon hd (a.setIfInBounds k true) i
    refine ⟨by rw [List.foldl_cons, h1]; simp, ?_⟩
    rw [List.foldl_cons, h2, Array.size_setIfInBounds]
    by_cases hk : k = i
    · subst hk
      by_cases hl : k < a.size
      · have : (a.setIfInBounds k true).getD k false = true := by simp [hl]
        rw [this]; simp [hl]
      · have : (a.setIfInBounds k true).getD k false = a.getD k false := by simp [Array.getD_eq_getD_getElem?, Array.getElem?_eq_none (show a.size ≤ k by omega), Array.getElem?_setIfInBounds, hl]
        rw [this]; simp [hl]
    · rw [getD_set_ne false hk]
      have : (k :: hd).contains i = hd.contains i := by simp [List.contains_cons, Ne.symm hk]
      rw [this]
theorem pickOps_mem {l : List Oper} : ∀ {hd : List Nat} {p : Nat × Oper}, p ∈ pickOps l hd ↔ p.1 ∈ hd ∧ l[p.1]? = some p.2
  | [], p => by simp [pickOps]
  | i :: hd, p => by
    unfold pickOps
    cases h : l[i]? with
    | none =>
      simp only
      rw [pickOps_mem]
      constructor
      · rintro ⟨h1, h2⟩; exact ⟨by simp [h1], h2⟩
      · rintro ⟨h1, h2⟩
        rcases List.mem_cons.1 h1 with e | h1
        · rw [e, h] at h2; cases h2
        · exact ⟨h1, h2⟩
    | some o =>
      simp only [List.mem_cons]
      rw [pickOps_mem]
      constructor
      · rintro (rfl | ⟨h1, h2⟩)
        · exact ⟨.inl rfl, h⟩
        · exact ⟨.inr h1, h2⟩
      · rintro ⟨h1 | h1, h2⟩
        · rw [h1, h] at h2; cases h2
          exact .inl (by cases p; simp at h1 ⊢; exact h1)
        · exact .inr ⟨h1, h2⟩
theorem countP_set {hd : List Nat} (hn : hd.Nodup) {i : Nat} (hi : i ∈ hd) {f g : Nat → Bool} (hf : f i = true) (hg : g i = false) (ho : ∀ j, j ≠ i → g j = f j) : hd.countP f = hd.countP g + 1 := by
  induction hd with
  | nil => cases hi
  | cons k hd ih =>
    rw [List.nodup_cons] at hn
    rw [List.countP_cons, List.countP_cons]
    by_cases hk : k = i
    · subst hk
      have : hd.countP f = hd.countP g := List.countP_congr fun j hj => by rw [ho j (fun e => hn.1 (by rw [← e]; exact hj))]
      rw [this, hf, hg]; simp
    · have hi' : i ∈ hd := by
        rcases List.mem_cons.1 hi with e | h
        · exact (hk e.symm).elim
        · exact h
      rw [ih hn.2 hi', ho k hk]; omega
section
variable {P : Program} {B : Base} {T : Tab}
theorem exists_min {p : Nat → Prop} (h : ∃ n, p n) : ∃ n, p n ∧ ∀ m, m < n → ¬ p m := by
  obtain ⟨n, hn⟩ := h
  induction n using Nat.strongRecOn with
  | _ n ih =>
    by_cases h2 : ∃ m, m < n ∧ p m
    · obtain ⟨m, h3, h4⟩ := h2; exact ih m h3 h4
    · exact ⟨n, hn, fun m hm hp => h2 ⟨m, hm, hp⟩⟩
theorem wpAnyIn_of_seqT {r : Option Nat} {md : Region.Mode} {l : List Oper} {Q : Exit → Act → World → Prop} : ∀ (ts : List Nat) (listed : Array Bool) (a : Act) (w : World), seqT md l.toArray ts listed = true → wpListIn (fen r) 0 P l.toArray Q ((pickOps l ts).map (·.2)) a w → wpAnyIn (fen r) 0 P md l.toArray Q ts.length listed a w
  | [], _, _, _, hB, h => ⟨by simpa [seqT] using hB, h⟩
  | t :: ts, listed, a, w, hB, h => by
    simp only [seqT, Bool.and_eq_true, decide_eq_true_eq] at hB
    refine ⟨fun h1 => (by rw [hB.1] at h1; cases h1), fun i hi => ?_⟩
    have hi0 := hi
    rw [hB.1] at hi
    have hik : i = t := by simpa using hi
    subst hik
    obtain ⟨_, o, ho, _⟩ := mem_ready.1 hi0
    have ho' : l[i]? = some o := by simpa using ho
    have hp : pickOps l (i :: ts) = (i, o) :: pickOps l ts := by simp only [pickOps, ho']
    rw [hp, List.map_cons] at h
    have hw : wpOpIn (fen r) 0 P l.toArray Q i (wpListIn (fen r) 0 P l.toArray Q ((pickOps l ts).map (·.2))) a w := by unfold wpOpIn; simp only [ho]; exact h
    exact wpOpIn_mono (fun a' w' h' => wpAnyIn_of_seqT ts _ a' w' hB.2 h') hw
theorem wpAny_heads {l : List Oper} {hd tail : List Nat} {Q : Exit → Act → World → Prop} {tm0 tmF : List (Nat × V)} {st0 nbF : List (Nat × Blk)} {nx : Nat} (hok : drawOk l hd tail = true) (hrun : HRun P B l.toArray st0 nx tmF nbF (pickOps l hd) tm0 []) (hN : (l.all (opOk B.N)) = true)
    (hst0 : ∀ n, nx ≤ n → lkB st0 n = none)
    (hQ : ∀ E a, Gam P B ⟨tmF, nbF ++ st0, nx + l.length⟩ E a → wpListIn (fen B.r) 0 P l.toArray Q ((pickOps l tail).map (·.2)) a E.w) :
    ∀ (F : Nat) (listed : Array Bool) (E : Env) (a : Act), GInv .any l.toArray listed → (∀ t ∈ tail, listed.getD t false = false) → hd.countP (fun i => !listed.getD i false) = F →
      GamS P B (fun n => if nx ≤ n then (if listed.getD (n - nx) false = true then lkB nbF n else none) else lkB st0 n) (fun n => nx ≤ n ∧ (listed.getD (n - nx) false = true → lkB nbF n = none)) E →
      GamT B (fun t => if ((pickOps l hd).any fun p => p.2.dst == some t && listed.getD p.1 false) = true then lkT tmF t else lkT tm0 t) E a → wpAnyIn (fen B.r) 0 P .any l.toArray Q (F + tail.length) listed a E.w := by
  simp only [drawOk, Bool.and_eq_true] at hok
  obtain ⟨⟨⟨⟨⟨⟨⟨⟨⟨hsink, htl⟩, hpart⟩, hlt⟩, hnd⟩, hedge⟩, hincr⟩, hdep⟩, hseq⟩, _⟩ := hok
  obtain ⟨f1, f2, f3⟩ := hrun_facts _ _ _ hincr hrun
  have hnd' : hd.Nodup := by simpa using hnd
  have htl' : ∀ t ∈ tail, hd.contains t = false := fun t ht => by have := List.all_eq_true.1 htl t ht; simpa using this
  intro F
  induction F with
  | zero =>
    intro listed E a inv hT hcnt hS hGT
    have hall : ∀ i ∈ hd, listed.getD i false = true := fun i hi => by
      have := List.countP_eq_zero.1 hcnt i hi
      simpa using this
    have hsz : listed.size = l.length := by rw [inv.size]; simp
    have hcan : listed = canonH l.length hd := by
      refine Array.ext_getElem? fun i => ?_
      have hcs := (foldl_canon hd (Array.replicate l.length false) i)
      have hcsz : (canonH l.length hd).size = l.length := by unfold canonH; rw [hcs.1]; simp
      by_cases hi : i < l.length
      · have e1 : listed[i]? = some (listed.getD i false) := by simp [Array.getD_eq_getD_getElem?, hsz, hi]
        have e2 : (canonH l.length hd)[i]? = some ((canonH l.length hd).getD i false) := by simp [Array.getD_eq_getD_getElem?, hcsz, hi]
        rw [e1, e2]
        congr 1
        unfold canonH
        rw [hcs.2]
        rw [getD_replicate_false]
        simp only [Array.size_replicate, Bool.false_or]
        by_cases hh : hd.contains i = true
        · rw [hh, hall i (by simpa using hh)]; simp [hi]
        · have := List.all_eq_true.1 hpart i (List.mem_range.2 hi)
          simp only [Bool.or_eq_true] at this
          rcases this with h | h
          · exact (hh h).elim
          · rw [hT i (by simpa using h)]; simp only [Bool.not_eq_true] at hh; rw [hh]; rfl
      · rw [Array.getElem?_eq_none (by omega), Array.getElem?_eq_none (by omega)]
    rw [Nat.zero_add]
    refine wpAnyIn_of_seqT tail listed a E.w (by rw [hcan]; exact hseq) (hQ E a ⟨hS.congr (fun n => ?_) (fun n hn => ?_), ⟨fun t => ?_, hGT.defers, hGT.size⟩⟩)
    · -- the blocks
      have hap : lkB (nbF ++ st0) n = match lkB nbF n with | some b => some b | none => lkB st0 n := by
        generalize nbF = nb
        induction nb with
        | nil => rfl
        | cons p nb ih =>
          obtain ⟨k, b⟩ := p
          simp only [List.cons_append, lkB]
          split
          · rfl
          · exact ih
      show lkB (nbF ++ st0) n = _
      rw [hap]
      by_cases hn : nx ≤ n
      · rw [if_pos hn]
        by_cases hh : hd.contains (n - nx) = true
        · rw [if_pos (hall _ (by simpa using hh)), hst0 n hn]; cases lkB nbF n <;> rfl
        · have : lkB nbF n = none := by
            rw [f2 n (fun p hp e => hh ?_)]; rfl
            have := (pickOps_mem.1 hp).1
            rw [e, Nat.add_sub_cancel_left]; simpa using this
          rw [this, hst0 n hn]; simp
      · rw [if_neg hn]
        have : lkB nbF n = none := by
          rw [f2 n (fun p hp e => by omega)]; rfl
        rw [this]
    · have hn' : nx + l.length ≤ n := hn
      refine ⟨by omega, fun h => ?_⟩
      rw [show listed.getD (n - nx) false = false by
        simp [Array.getD_eq_getD_getElem?, Array.getElem?_eq_none (show listed.size ≤ n - nx by omega)]] at h
      cases h
    · have := hGT.tm t
      show RV E (lkT tmF t) _
      by_cases hw : ((pickOps l hd).any fun p => p.2.dst == some t && listed.getD p.1 false) = true
      · rw [if_pos hw] at this; exact this
      · rw [if_neg hw] at this
        rw [f1 t (fun p hp e => hw (List.any_eq_true.2 ⟨p, hp, by simp [e, hall p.1 (pickOps_mem.1 hp).1]⟩))]
        exact this
  | succ F ih =>
    intro listed E a inv hT hcnt hS hGT
    have hsz : listed.size = l.length := by rw [inv.size]; simp
    rw [show F + 1 + tail.length = (F + tail.length) + 1 by omega]
    -- an operation of the head that has not run
    obtain ⟨k, hk, hku⟩ : ∃ k, k ∈ hd ∧ listed.getD k false = false := by
      have : 0 < hd.countP (fun i => !listed.getD i false) := by omega
      obtain ⟨k, h1, h2⟩ := List.countP_pos_iff.1 this
      exact ⟨k, h1, by simpa using h2⟩
    have hkl : k < l.length := by have := List.all_eq_true.1 hlt k hk; simpa using this
    have hku' : listed.getD k true = false := getD_in (by omega) hku
    refine ⟨fun hr => ?_, fun i hi => ?_⟩
    · -- the least that has not run is ready
      obtain ⟨m, ⟨hm1, hm2⟩, hm3⟩ := exists_min (p := fun m => m < l.length ∧ listed.getD m false = false) ⟨k, hkl, hku⟩
      have : m ∈ Region.ready .any l.toArray listed := by
        refine mem_ready.2 ⟨getD_in (by omega) hm2, l[m], by simp [hm1], fun e he hb => ?_⟩
        have h1 := List.all_eq_true.1 hedge m (List.mem_range.2 hm1)
        rw [List.getElem?_eq_getElem hm1] at h1
        have h2 := List.all_eq_true.1 h1 e (by simpa using he)
        rw [hb] at h2
        simp at h2
        cases hc : listed.getD e.on false with
        | true => rfl
        | false => exact (hm3 e.on h2 ⟨by omega, hc⟩).elim
      rw [hr] at this
      cases this
    · have hih := sink_spec hsink inv (i := k) (by simpa using hkl) (by simpa using hk) hku' hi
      have hi' : i ∈ hd := by simpa using hih
      obtain ⟨hiun, o, ho, hafter⟩ := mem_ready.1 hi
      have hol : l[i]? = some o := by simpa using ho
      have hil : i < l.length := (List.getElem?_eq_some_iff.1 hol).1
      have hiun' := getD_both hiun
      have hmem : (i, o) ∈ pickOps l hd := pickOps_mem.2 ⟨hi', hol⟩
      obtain ⟨tmi, v, x, g1, g2, g3, g4, g5⟩ := f3 (i, o) hmem
      simp only at g1 g2 g3 g4 g5
      have g3 := g3 rfl
      have hopk := List.all_eq_true.1 hN o (List.mem_of_getElem? hol)
      -- what it looks at is as it was evaluated
      have hag : ∀ t ∈ o.looksAt l.toArray, (if ((pickOps l hd).any fun p => p.2.dst == some t && listed.getD p.1 false) = true then lkT tmF t else lkT tm0 t) = tmi t := fun t ht => by
        have hd1 := List.all_eq_true.1 hdep (i, o) hmem
        have hd2 := List.all_eq_true.1 hd1 t ht
        by_cases hw : ((pickOps l hd).any fun p => p.2.dst == some t && listed.getD p.1 false) = true
        · rw [if_pos hw]
          obtain ⟨q, hq, hq2⟩ := List.any_eq_true.1 hw
          simp only [Bool.and_eq_true, beq_iff_eq] at hq2
          have hd3 := List.all_eq_true.1 hd2 q hq
          simp only [Bool.or_eq_true, bne_iff_ne, ne_eq] at hd3
          rcases hd3 with h | h
          · exact (h hq2.1).elim
          · by_cases hlt2 : q.1 < i
            · exact (g4 t q hq hlt2 hq2.1).symm
            · rw [if_neg hlt2] at h
              simp only [Bool.and_eq_true, decide_eq_true_eq] at h
              have := reach_listed inv _ _ _ h.2 (fun o' ho' e he hb => inv.closed q.1 o' ho' hq2.2 e he hb)
              rw [hiun'] at this
              cases this
        · rw [if_neg hw]
          refine (g5 t (fun q hq hql hqt => hw (List.any_eq_true.2 ⟨q, hq, ?_⟩))).symm
          have hd3 := List.all_eq_true.1 hd2 q hq
          simp only [Bool.or_eq_true, bne_iff_ne, ne_eq] at hd3
          rcases hd3 with h | h
          · exact (h hqt).elim
          · rw [if_pos hql] at h
            have := reach_listed inv _ _ _ h (fun o' ho' e he hb => by
              have : o' = o := Option.some.inj (ho'.symm.trans ho)
              subst this
              exact hafter e he hb)
            simp [hqt, this]
      have hst : ∀ n b, lkB st0 n = some b → (if nx ≤ n then (if listed.getD (n - nx) false = true then lkB nbF n else none) else lkB st0 n) = some b := fun n b hb => by
        by_cases hn : nx ≤ n
        · rw [hst0 n hn] at hb; cases hb
        · rw [if_neg hn]; exact hb
      obtain ⟨h1, h2⟩ := g1 _ _ _ E a hS hGT ⟨by omega, fun h => by rw [Nat.add_sub_cancel_left, hiun'] at h; cases h⟩ hst hag
      have inv2 := inv.set hi
      have hself : (listed.setIfInBounds i true).getD i false = true := by simp [hsz, hil]
      have hoth : ∀ j, j ≠ i → (listed.setIfInBounds i true).getD j false = listed.getD j false := fun j hj => getD_set_ne false (Ne.symm hj)
      have hT2 : ∀ t ∈ tail, (listed.setIfInBounds i true).getD t false = false := fun t ht => by
        rw [hoth t (fun e => by have := htl' t ht; rw [e] at this; rw [this] at hih; cases hih)]; exact hT t ht
      have hcnt2 : hd.countP (fun j => !(listed.setIfInBounds i true).getD j false) = F := by
        have := countP_set hnd' hi' (f := fun j => !listed.getD j false) (g := fun j => !(listed.setIfInBounds i true).getD j false) (by simp [hiun']) (by simp [hself]) (fun j hj => by rw [hoth j hj])
        omega
      have hσ2 : ∀ n, (if nx ≤ n then (if (listed.setIfInBounds i true).getD (n - nx) false = true then lkB nbF n else none) else lkB st0 n) = if n = nx + i then x else (if nx ≤ n then (if listed.getD (n - nx) false = true then lkB nbF n else none) else lkB st0 n) := fun n => by
        by_cases hn : n = nx + i
        · subst hn
          rw [if_pos rfl, if_pos (by omega), Nat.add_sub_cancel_left, if_pos hself, g3]
        · rw [if_neg hn]
          by_cases hn2 : nx ≤ n
          · rw [if_pos hn2, if_pos hn2, hoth (n - nx) (by omega)]
          · rw [if_neg hn2, if_neg hn2]
      have hfr2 : ∀ n, (nx ≤ n ∧ ((listed.setIfInBounds i true).getD (n - nx) false = true → lkB nbF n = none)) → (nx ≤ n ∧ (listed.getD (n - nx) false = true → lkB nbF n = none)) ∧ (x.isSome = true → n ≠ nx + i) := fun n hn => by
        refine ⟨⟨hn.1, fun h => hn.2 (getD_set_true h)⟩, fun hx e => ?_⟩
        subst e
        have := hn.2 (by rw [Nat.add_sub_cancel_left]; exact hself)
        rw [g3] at this
        rw [this] at hx
        cases hx
      have htm2 : ∀ t, (if ((pickOps l hd).any fun p => p.2.dst == some t && (listed.setIfInBounds i true).getD p.1 false) = true then lkT tmF t else lkT tm0 t) = if o.dst = some t then v else (if ((pickOps l hd).any fun p => p.2.dst == some t && listed.getD p.1 false) = true then lkT tmF t else lkT tm0 t) := fun t => by
        by_cases hd1 : o.dst = some t
        · rw [if_pos hd1, if_pos (List.any_eq_true.2 ⟨(i, o), hmem, by simp [hd1, hself]⟩), g2 t hd1]
        · rw [if_neg hd1]
          have : ((pickOps l hd).any fun p => p.2.dst == some t && (listed.setIfInBounds i true).getD p.1 false) = ((pickOps l hd).any fun p => p.2.dst == some t && listed.getD p.1 false) := by
            rw [Bool.eq_iff_iff, List.any_eq_true, List.any_eq_true]
            constructor
            · rintro ⟨p, hp, h⟩
              simp only [Bool.and_eq_true, beq_iff_eq] at h
              have hpi : p.1 ≠ i := fun e => by
                have := (pickOps_mem.1 hp).2
                rw [e, hol] at this
                injection this with this
                rw [← this] at h
                exact hd1 h.1
              rw [hoth p.1 hpi] at h
              exact ⟨p, hp, by simp [h.1, h.2]⟩
            · rintro ⟨p, hp, h⟩
              simp only [Bool.and_eq_true, beq_iff_eq] at h
              exact ⟨p, hp, by simp [h.1, getD_set_true h.2]⟩
          rw [this]
      have hdN : ∀ t, o.dst = some t → t < B.N := fun t e => by
        have : (match o.dst with | some d => decide (d < B.N) | none => true) = true := by
          simp only [opOk, Bool.and_eq_true] at hopk; exact hopk.2
        rw [e] at this
        simpa using this
      unfold wpOpIn
      simp only [ho]
      cases hw : Region.wanted o (yielded l.toArray a.tmps) with
      | true =>
        rw [if_pos rfl]
        refine (h1 hw).wpIn ?_
        rintro u w' ⟨E', rfl, hS', hext, hdp, hv⟩
        exact ih _ E' _ inv2 hT2 hcnt2 (hS'.congr hσ2 hfr2) ((hGT.ext hext hdp).putF (fun t e => ⟨hv, hdN t e⟩) htm2)
      | false =>
        rw [if_neg (by simp)]
        obtain ⟨rfl, hv⟩ := h2 hw
        have hσn : ∀ n, (if n = nx + i then none else (if nx ≤ n then (if listed.getD (n - nx) false = true then lkB nbF n else none) else lkB st0 n)) = (if nx ≤ n then (if listed.getD (n - nx) false = true then lkB nbF n else none) else lkB st0 n) := fun n => by
          by_cases hn : n = nx + i
          · subst hn; rw [if_pos rfl, if_pos (by omega), Nat.add_sub_cancel_left, hiun', if_neg (by simp)]
          · rw [if_neg hn]
        exact ⟨fun _ _ => trivial, ih _ E _ inv2 hT2 hcnt2 (hS.congr (fun n => (hσ2 n).trans (hσn n)) (fun n hn => (hfr2 n hn).1)) (hGT.putF (fun t e => ⟨hv, hdN t e⟩) htm2)⟩
/-- a region that draws its order -/
def rwpD (P : Program) (B : Base) (T : Tab) (l : List Oper) (hd tail : List Nat) (s : St) (K : St → Prop) : Prop :=
  hwp P T l.toArray s.st s.nx (pickOps l hd) s.tm [] (fun tm nb => rwp P B T l.toArray ((pickOps l tail).map (·.2)) ⟨tm, nb ++ s.st, s.nx + l.length⟩ K)
theorem gam_drew {s : St} {E : Env} {a : Act} (h : Gam P B s E a) : Gam P B s ⟨E.η, E.F, { E.w with drawn := E.w.drawn + 1 }, E.dp⟩ a := by
  have hext : Ext E ⟨E.η, E.F, { E.w with drawn := E.w.drawn + 1 }, E.dp⟩ := ⟨fun _ _ h => h, Ft.le_refl _, .of_blocks (fun _ _ _ => rfl) (fun _ _ => rfl)⟩
  refine ⟨⟨h.1.os, h.1.tape, h.1.output, h.1.size, h.1.old, h.1.F0, h.1.Fc, h.1.Fm, fun n x hx => ?_, h.1.dist, h.1.fresh, h.1.dp⟩, h.2.ext hext rfl⟩
  exact (h.1.st n x hx).keep (fun _ h => h) hext (Nat.le_refl _) (fun _ _ _ _ _ => rfl) (fun _ _ _ _ _ hok => hok)
theorem aw_regionD {id N : Nat} {l : List Oper} {s : St} {Q : AQ} (hd tail : List Nat) (hT : TabOk P T) (hm : P.follows .mixedOrders = true) (hN : B.N = N) (hl : (l.all (opOk N)) = true) (hok : drawOk l hd tail = true) (h : rwpD P B T l hd tail s (Q .normal)) : AW P B (.region id l.toArray true) Q ⟨⟩ s := fun E a hG => by
  subst hN
  have hops0 : ∀ o ∈ l.toArray.toList, opOk B.N o = true := fun o ho => List.all_eq_true.1 hl o (by simpa using ho)
  have hc : ((pickOps l hd).all fun p => p.2.op.operands.toList.all (constOk B.N)) = true := List.all_eq_true.2 fun p hp => by
    have := List.all_eq_true.1 hl p.2 (List.mem_of_getElem? (pickOps_mem.1 hp).2)
    simp only [opOk, Bool.and_eq_true] at this
    exact this.1
  obtain ⟨tmF, nbF, hK, hrun⟩ := hwp_ok (B := B) hT hops0 _ _ _ hc h
  have hG' := gam_drew hG
  have hst0 : ∀ n, s.nx ≤ n → lkB s.st n = none := fun n hn => hG.1.none_of_fresh hn
  refine wpIn_region_any hm ?_
  have htail : ((pickOps l tail).map (·.2)).all (opOk B.N) = true := List.all_eq_true.2 fun o ho => by
    obtain ⟨p, hp, rfl⟩ := List.mem_map.1 ho
    exact List.all_eq_true.1 hl p.2 (List.mem_of_getElem? (pickOps_mem.1 hp).2)
  have := wpAny_heads (Q := AQQ P B Q) hok hrun hl hst0 (fun E a hG => rwp_list hT hops0 _ _ _ htail hK (fun s' hs E a hG => ⟨E, s', rfl, hG, hs⟩) E a hG) hd.length (Array.replicate l.toArray.size false) ⟨E.η, E.F, { E.w with drawn := E.w.drawn + 1 }, E.dp⟩ a
    ⟨by simp, fun j oj _ hl => (by rw [getD_replicate_false] at hl; cases hl)⟩ (fun t _ => getD_replicate_false _ _) (by
      rw [List.countP_eq_length]; intro i _; rw [getD_replicate_false]; rfl)
    (hG'.1.congr (fun n => by
      rw [getD_replicate_false]
      by_cases hn : s.nx ≤ n
      · rw [if_pos hn, if_neg (by simp), hst0 n hn]
      · rw [if_neg hn]) (fun n hn => hn.1))
    ⟨fun t => by
      have : ((pickOps l hd).any fun p => p.2.dst == some t && (Array.replicate l.toArray.size false).getD p.1 false) = false := by
        rw [List.any_eq_false]; intro p _; rw [getD_replicate_false]; simp
      rw [this, if_neg (by simp)]
      exact hG'.2.tm t, hG'.2.defers, hG'.2.size⟩
  have hlen : hd.length + tail.length = l.length := by
    simp only [drawOk, Bool.and_eq_true, decide_eq_true_eq] at hok
    exact hok.2
  rw [hlen] at this
  simpa using this
/-- the operations that write what is there -/
def isT : Op → Bool
  | .store .. => true
  | .mapUpdate .. => true
  | .insert .. => true
  | .call ⟨.builtin .append, _, _⟩ => true
  | .call ⟨.builtin .delete, _, _⟩ => true
  | .call ⟨.builtin .copy, _, _⟩ => true
  | _ => false
def headIdx : Nat → List Oper → List Nat
  | _, [] => []
  | k, o :: l => match isT o.op with
    | true => headIdx (k + 1) l
    | false => k :: headIdx (k + 1) l
def tailIdx : Nat → List Oper → List Nat
  | _, [] => []
  | k, o :: l => match isT o.op with
    | true => k :: tailIdx (k + 1) l
    | false => tailIdx (k + 1) l
def headOps : Nat → List Oper → List (Nat × Oper)
  | _, [] => []
  | k, o :: l => match isT o.op with
    | true => headOps (k + 1) l
    | false => (k, o) :: headOps (k + 1) l
def tailOps : List Oper → List Oper
  | [] => []
  | o :: l => match isT o.op with
    | true => o :: tailOps l
    | false => tailOps l
theorem headOps_eq : ∀ (l pre : List Oper), pickOps (pre ++ l) (headIdx pre.length l) = headOps pre.length l
  | [], pre => rfl
  | o :: l, pre => by
    have ih := headOps_eq l (pre ++ [o])
    simp only [List.append_assoc, List.cons_append, List.nil_append, List.length_append, List.length_cons, List.length_nil, Nat.zero_add] at ih
    have hg : (pre ++ o :: l)[pre.length]? = some o := by simp
    cases ht : isT o.op <;> simp only [headIdx, headOps, ht]
    · simp only [pickOps, hg]; rw [ih]
    · exact ih
theorem tailOps_eq : ∀ (l pre : List Oper), (pickOps (pre ++ l) (tailIdx pre.length l)).map (·.2) = tailOps l
  | [], pre => rfl
  | o :: l, pre => by
    have ih := tailOps_eq l (pre ++ [o])
    simp only [List.append_assoc, List.cons_append, List.nil_append, List.length_append, List.length_cons, List.length_nil, Nat.zero_add] at ih
    have hg : (pre ++ o :: l)[pre.length]? = some o := by simp
    cases ht : isT o.op <;> simp only [tailIdx, tailOps, ht]
    · exact ih
    · simp only [pickOps, hg, List.map_cons]; rw [ih]
theorem aw_drawn {id : Nat} {l : List Oper} {s : St} {Q : AQ} (hT : TabOk P T) (hm : P.follows .mixedOrders = true) (hl : (l.all (opOk B.N)) = true) (hok : drawOk l (headIdx 0 l) (tailIdx 0 l) = true)
    (h : hwp P T l.toArray s.st s.nx (headOps 0 l) s.tm [] (fun tm nb => rwp P B T l.toArray (tailOps l) ⟨tm, nb ++ s.st, s.nx + l.length⟩ (Q .normal))) : AW P B (.region id l.toArray true) Q ⟨⟩ s := by
  refine aw_regionD (headIdx 0 l) (tailIdx 0 l) hT hm rfl hl hok ?_
  unfold rwpD
  have h1 := headOps_eq l []
  have h2 := tailOps_eq l []
  simp only [List.nil_append, List.length_nil] at h1 h2
  rw [h1, h2]
  exact h
theorem aw_drawnA {id : Nat} {ops : Array Oper} {s : St} {Q : AQ} (hT : TabOk P T) (hm : P.follows .mixedOrders = true) (hl : (ops.toList.all (opOk B.N)) = true) (hok : drawOk ops.toList (headIdx 0 ops.toList) (tailIdx 0 ops.toList) = true)
    (h : hwp P T ops s.st s.nx (headOps 0 ops.toList) s.tm [] (fun tm nb => rwp P B T ops (tailOps ops.toList) ⟨tm, nb ++ s.st, s.nx + ops.toList.length⟩ (Q .normal))) : AW P B (.region id ops true) Q ⟨⟩ s :=
  aw_drawn (l := ops.toList) hT hm hl hok h
end
end Go.Proofs.Ytncihbmehbiekaa


namespace Go.Proofs.Ytncihbmehbiekaa
set_option linter.unusedVariables false
set_option linter.unusedSimpArgs false
open Go.RowKit
/-- names of the new state: what they were called; none: a nil slice -/
abbrev Ren := List (Nat × Option Nat)
def lkN : Ren → Nat → Option (Option Nat)
  | [], _ => none
  | (u, x) :: l, t => if t = u then some x else lkN l t
theorem lkN_n (t : Nat) : lkN [] t = none := rfl
theorem lkN_c (u : Nat) (x : Option Nat) (l : Ren) (t : Nat) : lkN ((u, x) :: l) t = if t = u then some x else lkN l t := rfl
def ren (ρ : Ren) (E : Env) : Env := ⟨fun n => match lkN ρ n with
  | some (some m) => E.η m
  | some none => some (.slice none 0 0)
  | none => none, E.F, E.w, E.dp⟩
def subD : D → D → Prop
  | .c (.slice none 0 0), .sl _ _ es => es = []
  | .sl sz _ es, .sl sz' _ es' => sz = sz' ∧ es = es'
  | x, y => x = y
mutual
def subV (ρ : Ren) : V → V → Prop
  | _, .any => True
  | .d x, .d y => subD x y
  | .ow _ sz _ es, .d (.sl sz' _ es') => sz = sz' ∧ es = es'
  | .d (.c (.slice none 0 0)), .ow n _ _ es => lkN ρ n = some none ∧ es = []
  | .ow m sz _ es, .ow n sz' _ es' => lkN ρ n = some (some m) ∧ sz = sz' ∧ es = es'
  | .ptr m o, .ptr n o' => lkN ρ n = some (some m) ∧ o = o'
  | .mo m, .mo n => lkN ρ n = some (some m)
  | .mp m, .mp n => lkN ρ n = some (some m)
  | .yl m, .yl n => lkN ρ n = some (some m)
  | .elt sz _ es i o, .elt sz' _ es' i' o' => sz = sz' ∧ es = es' ∧ i = i' ∧ o = o'
  | .oel m sz i o, .oel n sz' i' o' => lkN ρ n = some (some m) ∧ sz = sz' ∧ i = i' ∧ o = o'
  | .agg xs, .agg ys => subVs ρ xs ys
  | .tup xs, .tup ys => subVs ρ xs ys
  | .fn f xs, .fn g ys => f = g ∧ subVs ρ xs ys
  | .fm f xs, .fm g ys => f = g ∧ subVs ρ xs ys
  | .cond g x, .cond g' y => g = g' ∧ subV ρ x y
  | _, _ => False
def subVs (ρ : Ren) : List V → List V → Prop
  | [], [] => True
  | x :: xs, y :: ys => subV ρ x y ∧ subVs ρ xs ys
  | _, _ => False
end
theorem subD_ok {F : Ft} {w : World} {x y : D} {v : Value} (h : subD x y) (hv : RD F w x v) : RD F w y v := by
  unfold subD at h
  split at h
  · subst h
    simp only [RD] at hv
    subst hv
    exact RD.nil_sl _ _ _ _
  · obtain ⟨rfl, rfl⟩ := h
    simpa only [RD] using hv
  · subst h; exact hv
mutual
theorem subV_ok (ρ : Ren) (E : Env) : ∀ (x y : V) (v : Value), subV ρ x y → RV E x v → RV (ren ρ E) y v
  | x, .any, v, _, _ => by simp only [RV]
  | .d x, .d y, v, h, hv => by simp only [subV] at h; simp only [RV] at hv ⊢; exact subD_ok h hv
  | .ow n sz d0 es, .d (.sl sz' d1 es'), v, h, hv => by
    simp only [subV] at h
    obtain ⟨rfl, rfl⟩ := h
    simp only [RV, RD] at hv ⊢
    exact hv.2
  | .d (.c (.slice none 0 0)), .ow n sz d1 es, v, h, hv => by
    simp only [subV] at h
    obtain ⟨h1, rfl⟩ := h
    simp only [RV, RD] at hv
    subst hv
    simp only [RV]
    exact ⟨by simp [ren, h1], RD.nil_sl _ _ _ _⟩
  | .ow m sz d0 es, .ow n sz' d1 es', v, h, hv => by
    simp only [subV] at h
    obtain ⟨h1, rfl, rfl⟩ := h
    simp only [RV] at hv ⊢
    refine ⟨by simp [ren, h1, hv.1], ?_⟩
    have := hv.2
    simp only [RD] at this ⊢
    exact this
  | .ptr m o, .ptr n o', v, h, hv => by
    simp only [subV] at h
    obtain ⟨h1, rfl⟩ := h
    simp only [RV] at hv ⊢
    obtain ⟨b, h2, h3⟩ := hv
    exact ⟨b, by simp [ren, h1, h2], h3⟩
  | .mo m, .mo n, v, h, hv => by
    simp only [subV] at h
    simp only [RV] at hv ⊢
    exact ⟨by simp [ren, h, hv.1], hv.2⟩
  | .mp m, .mp n, v, h, hv => by
    simp only [subV] at h
    simp only [RV] at hv ⊢
    exact ⟨by simp [ren, h, hv.1], hv.2⟩
  | .yl m, .yl n, v, h, hv => by
    simp only [subV] at h
    simp only [RV] at hv ⊢
    exact ⟨by simp [ren, h, hv.1], hv.2⟩
  | .elt sz _ es i o, .elt sz' _ es' i' o', v, h, hv => by
    simp only [subV] at h
    obtain ⟨rfl, rfl, rfl, rfl⟩ := h
    simp only [RV] at hv ⊢
    exact hv
  | .oel m sz i o, .oel n sz' i' o', v, h, hv => by
    simp only [subV] at h
    obtain ⟨h1, rfl, rfl, rfl⟩ := h
    simp only [RV] at hv ⊢
    obtain ⟨b, l, c, h2, h3⟩ := hv
    exact ⟨b, l, c, by simp [ren, h1, h2], h3⟩
  | .agg xs, .agg ys, v, h, hv => by
    simp only [subV] at h
    simp only [RV] at hv ⊢
    obtain ⟨us, h1, h2, h3⟩ := hv
    exact ⟨us, h1, subVs_ok ρ E xs ys us h h2, h3⟩
  | .tup xs, .tup ys, v, h, hv => by
    simp only [subV] at h
    simp only [RV] at hv ⊢
    obtain ⟨us, h1, h2⟩ := hv
    exact ⟨us, h1, subVs_ok ρ E xs ys us h h2⟩
  | .fn f xs, .fn g ys, v, h, hv => by
    simp only [subV] at h
    obtain ⟨rfl, h⟩ := h
    simp only [RV] at hv ⊢
    obtain ⟨us, h1, h2⟩ := hv
    exact ⟨us, h1, subVs_ok ρ E xs ys us h h2⟩
  | .fm f xs, .fm g ys, v, h, hv => by
    simp only [subV] at h
    obtain ⟨rfl, h⟩ := h
    simp only [RV] at hv ⊢
    obtain ⟨us, h1, h2⟩ := hv
    exact ⟨us, h1, subVs_ok ρ E xs ys us h h2⟩
  | .cond g x, .cond g' y, v, h, hv => by
    simp only [subV] at h
    obtain ⟨rfl, h⟩ := h
    simp only [RV] at hv ⊢
    exact ⟨fun hg => subV_ok ρ E x y v h (hv.1 hg), hv.2⟩
theorem subVs_ok (ρ : Ren) (E : Env) : ∀ (xs ys : List V) (us : List Value), subVs ρ xs ys → RVL E xs us → RVL (ren ρ E) ys us
  | [], [], us, _, hv => by simp only [RVL] at hv ⊢; exact hv
  | x :: xs, y :: ys, us, h, hv => by
    simp only [subVs] at h
    simp only [RVL] at hv ⊢
    obtain ⟨u, r, h1, h2, h3⟩ := hv
    exact ⟨u, r, h1, subV_ok ρ E x y u h.1 h2, subVs_ok ρ E xs ys r h.2 h3⟩
  | [], _ :: _, us, h, _ => by simp only [subVs] at h
  | _ :: _, [], us, h, _ => by simp only [subVs] at h
end
def subM (ρ : Ren) : List (List Int × V) → List (List Int × V) → Prop
  | [], [] => True
  | (c, x) :: l, (c', x') :: l' => (c = c' ∧ subV ρ x x') ∧ subM ρ l l'
  | _, _ => False
theorem subM_map {α : Type} {ρ : Ren} {f : α → List Int × V} (h : ∀ a, subV ρ (f a).2 (f a).2) : ∀ {l l' : List α}, l = l' → subM ρ (l.map f) (l'.map f)
  | [], _, e => by subst e; trivial
  | a :: l, _, e => by subst e; exact ⟨⟨rfl, h a⟩, subM_map h rfl⟩
theorem subM_ok {P : Program} {q : KQ} {k : TypeId} {ρ : Ren} {E : Env} : ∀ {l l' : List (List Int × V)} {ms : List MapEntry}, subM ρ l l' → RMp P q k E ms l → RMp P q k (ren ρ E) ms l' ∧ l.map (·.1) = l'.map (·.1)
  | [], [], [], _, _ => ⟨trivial, rfl⟩
  | (c, x) :: l, (c', x') :: l', e :: ms, h, hm => by
    obtain ⟨⟨rfl, h1⟩, h2⟩ := h
    obtain ⟨h3, h4⟩ := subM_ok h2 hm.2
    exact ⟨⟨⟨hm.1.1, hm.1.2.1, subV_ok ρ E _ _ _ h1 hm.1.2.2⟩, h3⟩, by simp [h4]⟩
  | [], _ :: _, _, h, _ => by simp only [subM] at h
  | _ :: _, [], _, h, _ => by simp only [subM] at h
  | [], [], _ :: _, _, hm => by simp only [RMp] at hm
  | _ :: _, _ :: _, [], _, hm => by simp only [RMp] at hm
def subB (ρ : Ren) : Blk → Blk → Prop
  | .cells t cs, .cells t' cs' => t = t' ∧ subVs ρ cs cs'
  | .tok e sz len, .tok e' sz' len' => e = e' ∧ sz = sz' ∧ len = len'
  | .row e sz _ es, .row e' sz' _ es' => (e = e' ∧ sz = sz' ∧ es.map List.length = es'.map List.length) ∧ subVs ρ es.flatten es'.flatten
  | .map q k zv z0 es, .map q' k' zv' z0' es' => (q = q' ∧ k = k' ∧ zv = zv') ∧ subV ρ z0 z0' ∧ subM ρ es es'
  | .loop L st pe, .loop L' st' pe' => L = L' ∧ st = st' ∧ pe = pe'
  | .raw b o, .raw b' o' => b = b' ∧ o = o'
  | _, _ => False
def wkT (ρ : Ren) (tm : List (Nat × V)) : List (Nat × V) → Prop
  | [] => True
  | (t, v) :: l => subV ρ (lkT tm t) v ∧ wkT ρ tm l
def wkB1 (ρ : Ren) (st : List (Nat × Blk)) (b : Blk) : Option (Option Nat) → Prop
  | some (some m) => match lkB st m with
    | some b' => subB ρ b' b
    | none => False
  | some none => match b with
    | .tok _ _ len => len = 0
    | _ => False
  | none => False
def wkB (ρ : Ren) (st : List (Nat × Blk)) : List (Nat × Blk) → Prop
  | [] => True
  | (n, b) :: l => wkB1 ρ st b (lkN ρ n) ∧ wkB ρ st l
def injB : Ren → Bool
  | [] => true
  | (u, x) :: l => (l.all fun p => u != p.1 && (x != p.2 || x == none)) && injB l
/-- s may be seen as s1 -/
def Wk (P : Program) (B : Base) (s s1 : St) : Prop := ∀ E a, Gam P B s E a → ∃ E', E'.w = E.w ∧ Gam P B s1 E' a
theorem lkN_mem : ∀ {ρ : Ren} {n : Nat} {x : Option Nat}, lkN ρ n = some x → (n, x) ∈ ρ
  | [], n, x, h => by cases h
  | (u, y) :: l, n, x, h => by
    simp only [lkN] at h
    split at h
    · rename_i e; cases h; subst e; simp
    · exact List.mem_cons_of_mem _ (lkN_mem h)
theorem injB_ok : ∀ {ρ : Ren} {n m k : Nat}, injB ρ = true → lkN ρ n = some (some k) → lkN ρ m = some (some k) → n = m
  | [], n, m, k, _, h, _ => by cases h
  | (u, y) :: l, n, m, k, hi, h1, h2 => by
    simp only [injB, Bool.and_eq_true] at hi
    simp only [lkN] at h1 h2
    split at h1 <;> split at h2
    · rename_i e1 e2; rw [e1, e2]
    · cases h1
      have := List.all_eq_true.1 hi.1 _ (lkN_mem h2)
      simp at this
    · cases h2
      have := List.all_eq_true.1 hi.1 _ (lkN_mem h1)
      simp at this
    · exact injB_ok hi.2 h1 h2
section
variable {P : Program} {B : Base} {Q : AQ}
theorem wkT_get {ρ : Ren} {tm : List (Nat × V)} : ∀ {l : List (Nat × V)} (t : Nat), wkT ρ tm l → lkT l t = .any ∨ subV ρ (lkT tm t) (lkT l t)
  | [], t, _ => .inl rfl
  | (u, v) :: l, t, h => by
    simp only [wkT] at h
    simp only [lkT]
    split
    · rename_i e; subst e; exact .inr h.1
    · exact wkT_get t h.2
theorem wkB_get {ρ : Ren} {st : List (Nat × Blk)} : ∀ {l : List (Nat × Blk)} {n : Nat} {b : Blk}, wkB ρ st l → lkB l n = some b → wkB1 ρ st b (lkN ρ n)
  | [], n, b, _, h => by cases h
  | (u, x) :: l, n, b, h, hn => by
    simp only [wkB] at h
    simp only [lkB] at hn
    split at hn
    · rename_i e; cases hn; subst e; exact h.1
    · exact wkB_get h.2 hn
theorem subB_ok {ρ : Ren} {E : Env} {n m : Nat} {b b' : Blk} (hn : lkN ρ n = some (some m)) (h : subB ρ b' b) (hb : RBk P B E m b') : RBk P B (ren ρ E) n b := by
  have hη : (ren ρ E).η n = E.η m := by simp [ren, hn]
  unfold subB at h
  split at h <;> try exact h.elim
  · obtain ⟨rfl, h⟩ := h
    obtain ⟨b, us, h1, h2, h3, h4, h5⟩ := hb
    exact ⟨b, us, hη.trans h1, h2, subVs_ok ρ E _ _ _ h h3, h4, h5⟩
  · obtain ⟨rfl, rfl, rfl⟩ := h
    obtain ⟨v, us, h1, h2, h3⟩ := hb
    exact ⟨v, us, hη.trans h1, h2, h3⟩
  · obtain ⟨⟨rfl, rfl, hl⟩, h⟩ := h
    obtain ⟨v, us, h1, h2, h3, h4, h5, h6, h7⟩ := hb
    rename_i es _ es'
    have hll : es.length = es'.length := by simpa using congrArg List.length hl
    refine ⟨v, us, hη.trans h1, by rw [← hll]; exact h2, subVs_ok ρ E _ _ _ h h3, fun x hx => ?_, h5, by omega, h7⟩
    have : x.length ∈ es'.map List.length := List.mem_map_of_mem hx
    rw [← hl] at this
    obtain ⟨y, hy, e⟩ := List.mem_map.1 this
    rw [← e]; exact h4 y hy
  · obtain ⟨⟨rfl, rfl, rfl⟩, hz, hm⟩ := h
    obtain ⟨b, ms, clock, h1, h2, h3, h4, h5, h6⟩ := hb
    obtain ⟨g1, g2⟩ := subM_ok hm h3
    exact ⟨b, ms, clock, hη.trans h1, h2, g1, by rw [← g2]; exact h4, ⟨subV_ok ρ E _ _ _ hz h5.1, h5.2⟩, h6⟩
  · obtain ⟨rfl, rfl, rfl⟩ := h
    obtain ⟨b, rec, h1, h2⟩ := hb
    exact ⟨b, rec, hη.trans h1, h2⟩
  · obtain ⟨rfl, rfl⟩ := h
    obtain ⟨v, h1, h2⟩ := hb
    exact ⟨v, hη.trans h1, h2⟩
theorem wk_of (ρ : Ren) {s s1 : St} (hi : injB ρ = true) (hn : (ρ.all fun p => decide (p.1 < s1.nx)) = true) (hT : wkT ρ s.tm s1.tm) (hB : wkB ρ s.st s1.st) : Wk P B s s1 := by
  intro E a hG
  refine ⟨ren ρ E, rfl, ⟨hG.1.os, hG.1.tape, hG.1.output, hG.1.size, hG.1.old, hG.1.F0, hG.1.Fc, hG.1.Fm, fun n x hx => ?_, ?_, fun n hnx => ?_, hG.1.dp⟩, fun t => ?_, hG.2.defers, hG.2.size⟩
  · have := wkB_get hB hx
    unfold wkB1 at this
    split at this <;> try exact this.elim
    · rename_i m hm
      split at this <;> try exact this.elim
      rename_i b' hb'
      exact subB_ok hm this (hG.1.st m b' hb')
    · rename_i hm
      split at this <;> try exact this.elim
      subst this
      exact ⟨.slice none 0 0, [], by simp [ren, hm], World.ownsRow_nil _ _ _ _, fun b hb' => by simp [hb] at hb'⟩
  · intro n m x y b v u hnm hx hy hv hu hbv hbu
    have h1 := wkB_get hB hx
    have h2 := wkB_get hB hy
    cases e1 : lkN ρ n with
    | none => rw [e1] at h1; exact h1.elim
    | some k1 =>
    cases e2 : lkN ρ m with
    | none => rw [e2] at h2; exact h2.elim
    | some k2 =>
    cases k1 with
    | none => simp [ren, e1] at hv; subst hv; simp [hb] at hbv
    | some k1 =>
    cases k2 with
    | none => simp [ren, e2] at hu; subst hu; simp [hb] at hbu
    | some k2 =>
    rw [e1] at h1
    rw [e2] at h2
    simp only [wkB1] at h1 h2
    split at h1 <;> try exact h1.elim
    split at h2 <;> try exact h2.elim
    rename_i b1 hb1 _ b2 hb2
    have hk : k1 ≠ k2 := fun e => by subst e; exact hnm (injB_ok hi e1 e2)
    have hv' : E.η k1 = some v := by simpa [ren, e1] using hv
    have hu' : E.η k2 = some u := by simpa [ren, e2] using hu
    exact hG.1.dist k1 k2 b1 b2 b v u hk hb1 hb2 hv' hu' hbv hbu
  · have hnx' : s1.nx ≤ n := hnx
    cases e : lkN ρ n with
    | none => simp [ren, e]
    | some k =>
      have := List.all_eq_true.1 hn _ (lkN_mem e)
      simp at this
      omega
  · rcases wkT_get t hT with h | h
    · rw [h]; simp only [RV]
    · exact subV_ok ρ E _ _ _ h (hG.2.tm t)
/-- a loop: states I x, of which pre holds, mu goes down -/
def Rnd (P : Program) (B : Base) {ι : Type} (I : ι → St) (pre : ι → Prop) (μ : ι → Nat) (x : ι) (s : St) : Prop := ∃ y, pre y ∧ μ y < μ x ∧ Wk P B s (I y)
theorem aw_loopI {c : Code} {s : St} {ι : Type} (I : ι → St) (pre : ι → Prop) (μ : ι → Nat) (x : ι) (h0 : pre x) (hw : Wk P B s (I x))
    (round : ∀ x, pre x → AW P B c (fun e s' => match e with | .normal => Rnd P B I pre μ x s' | e => Q e s') ⟨⟩ (I x)) : AW P B (.loop c) Q ⟨⟩ s := by
  intro E a hG
  obtain ⟨E1, e1, hG1⟩ := hw E a hG
  rw [← e1]
  refine wpIn_loop_ghost (fun n a w => ∃ E y, E.w = w ∧ μ y = n ∧ pre y ∧ Gam P B (I y) E a) (μ x) ⟨E1, x, rfl, rfl, h0, hG1⟩ ?_
  rintro n a w ⟨E, y, rfl, rfl, hp, hG⟩
  refine Code.wpIn_mono ?_ (round y hp E a hG)
  rintro e a' w' ⟨E', s', rfl, hG', hq⟩
  cases e with
  | normal =>
    obtain ⟨z, h1, h2, h3⟩ := hq
    obtain ⟨E2, e2, hG2⟩ := h3 E' a' hG'
    exact ⟨μ z, h2, E2, z, e2, rfl, h1, hG2⟩
  | _ => exact ⟨E', s', rfl, hG', hq⟩
end
end Go.Proofs.Ytncihbmehbiekaa


namespace Go.Proofs.Ytncihbmehbiekaa
set_option linter.unusedVariables false
set_option linter.unusedSimpArgs false
open Go.RowKit
/-- slots behind n others -/
def shT (n : Nat) : List (Nat × V) → List (Nat × V)
  | [] => []
  | (t, v) :: l => (t + n, v) :: shT n l
/-- the slots from n on -/
def unT (n : Nat) : List (Nat × V) → List (Nat × V)
  | [] => []
  | (t, v) :: l => if n ≤ t then (t - n, v) :: unT n l else unT n l
def inV : Nat → List V → List (Nat × V)
  | _, [] => []
  | k, v :: l => (k, v) :: inV (k + 1) l
theorem lkT_shT (n t : Nat) : ∀ l : List (Nat × V), lkT (shT n l) t = if n ≤ t then lkT l (t - n) else .any
  | [] => by simp [shT, lkT]
  | (u, v) :: l => by
    simp only [shT, lkT, lkT_shT n t l]
    by_cases h : t = u + n
    · subst h; simp
    · rw [if_neg h]
      by_cases h2 : n ≤ t
      · rw [if_pos h2, if_pos h2, if_neg (by omega)]
      · rw [if_neg h2, if_neg h2]
theorem lkT_unT (n t : Nat) : ∀ l : List (Nat × V), lkT (unT n l) t = lkT l (t + n)
  | [] => by simp [unT, lkT]
  | (u, v) :: l => by
    have ih := lkT_unT n t l
    unfold unT
    by_cases h : n ≤ u
    · rw [if_pos h]
      simp only [lkT, ih]
      by_cases h2 : t = u - n
      · rw [if_pos h2, if_pos (by omega)]
      · rw [if_neg h2, if_neg (by omega)]
    · rw [if_neg h, ih]
      simp only [lkT]
      rw [if_neg (by omega)]
theorem lkT_app (t : Nat) (l m : List (Nat × V)) (h : ∀ p ∈ l, p.1 ≠ t) : lkT (l ++ m) t = lkT m t := by
  induction l with
  | nil => rfl
  | cons p l ih =>
    obtain ⟨u, v⟩ := p
    simp only [List.cons_append, lkT]
    rw [if_neg (fun e => h (u, v) (by simp) e.symm)]
    exact ih (fun q hq => h q (by simp [hq]))
theorem inV_fst : ∀ (l : List V) (k : Nat), ∀ p ∈ inV k l, k ≤ p.1 ∧ p.1 < k + l.length
  | [], k, p, h => by cases h
  | v :: l, k, p, h => by
    simp only [inV, List.mem_cons] at h
    rcases h with rfl | h
    · simp
    · have := inV_fst l (k + 1) p h
      simp only [List.length_cons]
      omega
theorem lkT_inV (m : List (Nat × V)) : ∀ (l : List V) (k t : Nat), k ≤ t → t < k + l.length → lkT (inV k l ++ m) t = l.getD (t - k) .any
  | [], k, t, h1, h2 => by simp at h2; omega
  | v :: l, k, t, h1, h2 => by
    simp only [inV, List.cons_append, lkT]
    by_cases h : t = k
    · subst h; simp
    · rw [if_neg h, lkT_inV m l (k + 1) t (by omega) (by simp only [List.length_cons] at h2; omega)]
      rw [show t - k = (t - (k + 1)) + 1 by omega]
      simp
section
variable {P : Program} {B B' : Base} {T : Tab}
theorem RBk.base (h1 : B'.w0 = B.w0) (h2 : B'.S0 = B.S0) {E : Env} {n : Nat} {x : Blk} (h : RBk P B E n x) : RBk P B' E n x := by
  obtain ⟨w0, S0, F0, N, g, r⟩ := B
  obtain ⟨w0', S0', F0', N', g', r'⟩ := B'
  simp only at h1 h2
  subst h1 h2
  cases x <;> exact h
theorem GamS.base (h1 : B'.w0 = B.w0) (h2 : B'.S0 = B.S0) (h3 : B'.F0 = B.F0) {σ : Nat → Option Blk} {fr : Nat → Prop} {E : Env} (h : GamS P B σ fr E) : GamS P B' σ fr E :=
  ⟨by rw [h1]; exact h.os, by rw [h1]; exact h.tape, by rw [h1]; exact h.output, by rw [h1]; exact h.size, by rw [h1, h2]; exact h.old, by rw [h3]; exact h.F0, by rw [h1, h2, h3]; exact h.Fc, by rw [h1, h2, h3]; exact h.Fm, fun n x hx => (h.st n x hx).base h1 h2, h.dist, h.fresh, by rw [h1, h2]; exact h.dp⟩
/-- the base of a call that is walked in place -/
def Base.inn (B : Base) (N : Nat) (g : Nat → Value) (gd : Nat → Prop) : Base := ⟨B.w0, B.S0, B.F0, N, g, none, gd⟩
theorem vOf_inn {N : Nat} {g : Nat → Value} {gd : Nat → Prop} {a : Act} (t : Nat) : vOf (B.inn N g gd) a (t + N) = g t := by
  unfold vOf
  rw [if_neg (by show ¬ t + N < N; omega)]
  show g (t + N - N) = _
  rw [Nat.add_sub_cancel]
/-- all marks that are out -/
def gdOf (B : Base) (a : Act) (D : Nat) : Prop := B.gd D ∨ mark D ∈ a.defers
theorem gam_enter {N : Nat} {s : St} {E : Env} {a : Act} {vs : List V} {us : List Value} (h : Gam P B s E a) (hv : RVL E vs us) (hN : vs.length ≤ N) :
    Gam P (B.inn N (vOf B a) (gdOf B a)) ⟨inV 0 vs ++ shT N s.tm, s.st, s.nx⟩ E ⟨us.toArray ++ Array.replicate (N - us.toArray.size) undef, []⟩ := by
  have hl := hv.len
  obtain ⟨es, e1, e2, e3, e4⟩ := h.2.defers
  refine ⟨GamS.base (B := B) (B' := B.inn N (vOf B a) (gdOf B a)) rfl rfl rfl h.1, fun t => ?_, ⟨[], rfl, List.nodup_nil, fun D hD => (by cases hD), fun D hD => ?_⟩, by simp [Base.inn]; omega⟩
  rotate_left
  · rcases hD with hD | hD
    · exact e4 D hD
    · rw [e1] at hD
      obtain ⟨X, hX, hm⟩ := List.mem_map.1 hD
      have : X = D := by simpa [mark] using hm
      subst this
      exact (e3 X hX).1
  show RV E (lkT (inV 0 vs ++ shT N s.tm) t) _
  unfold vOf
  by_cases h1 : t < vs.length
  · rw [lkT_inV _ vs 0 t (Nat.zero_le _) (by omega), if_pos (by show t < N; omega), Nat.sub_zero]
    obtain ⟨u, g1, g2⟩ := hv.get (j := t) (x := vs.getD t .any) (by simp [List.getD_eq_getElem?_getD, h1])
    have : (us.toArray ++ Array.replicate (N - us.toArray.size) undef).getD t undef = u := by
      simp only [Array.getD_eq_getD_getElem?, Array.getElem?_append, List.size_toArray]
      rw [if_pos (by omega)]
      simp [g1]
    rw [this]
    exact g2
  · rw [lkT_app _ _ _ (fun p hp e => by have := (inV_fst vs 0 p hp).2; omega), lkT_shT]
    by_cases h2 : N ≤ t
    · rw [if_pos h2, if_neg (by show ¬ t < N; omega)]
      exact h.2.tm (t - N)
    · rw [if_neg h2]; simp only [RV]
/-- back from such a call -/
theorem gam_leave {N : Nat} {s s' : St} {E E' : Env} {a a' : Act} {ds : List Nat} (h : Gam P B s E a) (h' : GamS P (B.inn N (vOf B a) (gdOf B a)) (lkB s'.st) (fun n => s'.nx ≤ n) E') (ht : ∀ t, RV E' (lkT s'.tm t) (vOf (B.inn N (vOf B a) (gdOf B a)) a' t)) (hd : ∀ X, gdOf B a X → E'.dp X) :
    Gam P B ⟨unT N s'.tm, s'.st, s'.nx⟩ E' a := by
  obtain ⟨es, e1, e2, e3, e4⟩ := h.2.defers
  refine ⟨GamS.base (B' := B) (B := B.inn N (vOf B a) (gdOf B a)) rfl rfl rfl h', fun t => ?_, ⟨es, e1, e2, fun D hD => ⟨hd D (.inr (by rw [e1]; exact List.mem_map_of_mem hD)), (e3 D hD).2⟩, fun D hD => hd D (.inl hD)⟩, h.2.size⟩
  show RV E' (lkT (unT N s'.tm) t) _
  rw [lkT_unT]
  have := ht (t + N)
  rwa [vOf_inn] at this
def resOf : List V → V
  | [v] => v
  | vs => .tup vs
theorem resOf_ok {E : Env} : ∀ {vs : List V} {us : List Value}, RVL E vs us → RV E (resOf vs) (if h : us.toArray.size = 1 then us.toArray[0] else .tuple us.toArray)
  | [], us, h => by
    simp only [RVL] at h
    subst h
    simp only [resOf, RV]
    exact ⟨[], rfl, by simp [RVL]⟩
  | [v], us, h => by
    simp only [RVL] at h
    obtain ⟨u, r, rfl, h1, rfl⟩ := h
    exact h1
  | v :: v' :: vs, us, h => by
    have hl := h.len
    have : ¬ us.toArray.size = 1 := by simp at hl ⊢; omega
    rw [dif_neg this]
    simp only [resOf, RV]
    exact ⟨us, rfl, h⟩
/-- what a call that is walked in place must come to -/
def inQ (T : Tab) (N : Nat) (rs : List ResultVar) (d : Option Tmp) (K : St → Prop) : AQ := fun e s => match e with
  | .normal | .ret => retL T s.st s.tm rs (fun vs => K ⟨put d (resOf vs) (unT N s.tm), s.st, s.nx⟩)
  | _ => False
theorem callI_in {f : FuncId} {fn : Func} {c : Code} {vs : List V} {rs : List ResultVar} {d : Option Tmp} {s : St} {K : St → Prop} {N : Nat} (hT : TabOk P T) (hf : P.funcs[f]? = some fn) (hN : fn.ntmps = N) (hb : fn.body = some c) (hr : fn.results = rs.toArray)
    (hname : (P.funcs[f]?).any (fun fn => fn.name != "runtime.NumGoroutine" && fn.body.isSome) = true) (hn : vs.length ≤ N) (hd : (match d with | some t => decide (t < B.N) | none => true) = true)
    (hrs : (rs.all (rvOk N)) = true) (h : ∀ a, AW P (B.inn N (vOf B a) (gdOf B a)) c (inQ T N rs d K) ⟨⟩ ⟨inV 0 vs ++ shT N s.tm, s.st, s.nx⟩) : callI P B f vs d s K ⟨⟩ := by
  subst hN
  have hd : ∀ t, d = some t → t < B.N := fun t e => by rw [e] at hd; simpa using hd
  refine ⟨hname, fun E a us hG hv => callsIn_wide.1 (callsIn_of_wp_marks (F := Fence.wide) (n := 0) hf hb trivial (Code.wpIn_mono ?_ (h a E _ (gam_enter hG hv hn))) rfl)⟩
  rintro e a' w' ⟨E0, s', rfl, hG0, hq⟩
  have key : retL T s'.st s'.tm rs (fun vs => K ⟨put d (resOf vs) (unT fn.ntmps s'.tm), s'.st, s'.nx⟩) → LeavesInM Fence.wide 0 P fn a'.tmps (fun e w' => ∃ u E' s', e = .returned u ∧ E'.w = w' ∧ Gam P B s' E' (a.put d u) ∧ K s') a'.defers .returning E0.w := fun hrr => by
    obtain ⟨ds, hds, hnd, hdp, hgd⟩ := hG0.2.defers
    obtain ⟨E', hS, hX, hk, hL⟩ := leaves_of (fn := fn) (R := fun e w' => ∃ u E' s', e = .returned u ∧ E'.w = w' ∧ Gam P B s' E' (a.put d u) ∧ K s') ds E0 hG0.1 hnd (fun D hD => (hdp D hD).1) a'.tmps
    have hkeep : ∀ D, gdOf B a D → E'.dp D := fun D hD => hk D (hgd D hD) (fun hm => (hdp D hm).2 hD)
    have hG' : Gam P (B.inn fn.ntmps (vOf B a) (gdOf B a)) s' E' ⟨a'.tmps, []⟩ := ⟨hS, fun t => RV.mono hX _ _ (hG0.2.tm t), ⟨[], rfl, List.nodup_nil, fun D hD => (by cases hD), hkeep⟩, hG0.2.size⟩
    obtain ⟨vs', hK, hlen, h5⟩ := retL_ok (B := B.inn fn.ntmps (vOf B a) (gdOf B a)) hT hrs hrr
    obtain ⟨us', h6, h7⟩ := h5 E' ⟨a'.tmps, []⟩ hG'
    rw [hds]
    have hgl := gam_leave (N := fn.ntmps) (ds := ds) hG hS hG'.2.tm hkeep
    exact hL _ (results_run (a := ⟨a'.tmps, []⟩) (by rw [hr]; exact h6)) ⟨_, E', ⟨put d (resOf vs') (unT fn.ntmps s'.tm), s'.st, s'.nx⟩, rfl, rfl, ⟨hgl.1, hgl.2.put (resOf_ok h7) hd⟩, hK⟩
  cases e <;> simp only [inQ] at hq <;> first | exact hq.elim | exact key hq
/-- a call over data, by its contract -/
theorem callI_spec {f : FuncId} {vs : List V} {asA : List A} {r : Ret} {d : Option Tmp} {s : St} {K : St → Prop} (hS : Spec P f asA r) (has : toAs vs = some asA)
    (hname : (P.funcs[f]?).any (fun fn => fn.name != "runtime.NumGoroutine" && fn.body.isSome) = true) (hd : (match d with | some t => decide (t < B.N) | none => true) = true) (hK : K ⟨put d (ofRet r) s.tm, s.st, s.nx⟩) : callI P B f vs d s K ⟨⟩ := by
  have hd : ∀ t, d = some t → t < B.N := fun t e => by rw [e] at hd; simpa using hd
  refine ⟨hname, fun E a us hG hv => (hS E.F E.w us hG.1.lt (toAs_ok has hv)).mono ?_⟩
  rintro e w' ⟨v, F', rfl, hb, hF, hr⟩
  let E' : Env := ⟨E.η, F', w', E.dp⟩
  have hs : HStep E E' s.nx := ⟨hb, fun _ _ => rfl, hF, rfl⟩
  have hext := hs.ext hG.1.lt (hG.1.fresh _ (Nat.le_refl _))
  have hσn : lkB s.st s.nx = none := hG.1.none_of_fresh (Nat.le_refl _)
  exact ⟨v, E', ⟨put d (ofRet r) s.tm, s.st, s.nx⟩, rfl, rfl, ⟨hG.1.head (σ' := lkB s.st) (x := none) hs rfl (Nat.le_refl _) (fun n => by split <;> simp_all) hσn (fun n hn' => ⟨hn', fun h => by cases h⟩), (hG.2.ext hext rfl).put (ofRet_ok (E := E') hr) hd⟩, hK⟩
/-- a call of a function that is data, by its contract -/
theorem slotX_intro {φ : List A → Ret → Prop} {vs : List V} {xs : List A} {r : Ret} {d : Option Tmp} {s : St} {K : St → Prop} (hφ : φ xs r) (has : toAs vs = some xs) (hd : (match d with | some t => decide (t < B.N) | none => true) = true) (hK : K ⟨put d (ofRet r) s.tm, s.st, s.nx⟩) : slotX P B (FnR P φ) vs d s K ⟨⟩ := by
  have hd : ∀ t, d = some t → t < B.N := fun t e => by rw [e] at hd; simpa using hd
  intro E a us v hG hv hvs
  simp only [RV, RD] at hv
  obtain ⟨_, _, f, fst, cap, h1, h2, h3⟩ := hv
  refine ⟨f, fst, cap, h1, h2, (h3 E.F E.w xs r (Ft.le_refl _) (Kp.refl _ _) hG.1.lt hφ us (toAs_ok has hvs)).mono ?_⟩
  rintro e w' ⟨u, F', rfl, hb, hF, hr⟩
  let E' : Env := ⟨E.η, F', w', E.dp⟩
  have hs : HStep E E' s.nx := ⟨hb, fun _ _ => rfl, hF, rfl⟩
  have hext := hs.ext hG.1.lt (hG.1.fresh _ (Nat.le_refl _))
  have hσn : lkB s.st s.nx = none := hG.1.none_of_fresh (Nat.le_refl _)
  exact ⟨u, E', ⟨put d (ofRet r) s.tm, s.st, s.nx⟩, rfl, rfl, ⟨hG.1.head (σ' := lkB s.st) (x := none) hs rfl (Nat.le_refl _) (fun n => by split <;> simp_all) hσn (fun n hn' => ⟨hn', fun h => by cases h⟩), (hG.2.ext hext rfl).put (ofRet_ok (E := E') hr) hd⟩, hK⟩
/-- a function from x to a truth value -/
theorem slotX_D {α : Type} {enc : α → A} {p : α → Bool} (x : α) {vs : List V} {d : Option Tmp} {s : St} {K : St → Prop} (has : toAs vs = some [enc x]) (hd : (match d with | some t => decide (t < B.N) | none => true) = true) (hK : K ⟨put d (vB (p x)) s.tm, s.st, s.nx⟩) : slotX P B (FnR P (FnD enc p)) vs d s K ⟨⟩ :=
  slotX_intro ⟨x, rfl, rfl⟩ has hd hK
end
end Go.Proofs.Ytncihbmehbiekaa


namespace Go.Proofs.Ytncihbmehbiekaa
set_option linter.unusedVariables false
set_option linter.unusedSimpArgs false
open Go.RowKit
section
variable {P : Program} {B : Base} {T : Tab}
theorem GamS.sub {σ σ' : Nat → Option Blk} {fr : Nat → Prop} {E : Env} (h : GamS P B σ fr E) (hσ : ∀ n x, σ' n = some x → σ n = some x) : GamS P B σ' fr E :=
  ⟨h.os, h.tape, h.output, h.size, h.old, h.F0, h.Fc, h.Fm, fun n x hx => h.st n x (hσ n x hx), fun n m x y b v u hnm hx hy => h.dist n m x y b v u hnm (hσ n x hx) (hσ m y hy), h.fresh, h.dp⟩
theorem GamS.addDp {σ : Nat → Option Blk} {fr : Nat → Prop} {E : Env} {D : Nat} (h : GamS P B σ fr E) (h1 : E.w.heap[D]? = some (.deferred (some []))) (h2 : B.w0.heap.size ≤ D) (h3 : ¬ E.F.m D) (h4 : ∀ o, ¬ E.F.c D o) :
    GamS P B σ fr ⟨E.η, E.F, E.w, fun X => E.dp X ∨ X = D⟩ := by
  have hext : Ext E ⟨E.η, E.F, E.w, fun X => E.dp X ∨ X = D⟩ := ⟨fun _ _ h => h, Ft.le_refl _, Kp.refl _ _⟩
  refine ⟨h.os, h.tape, h.output, h.size, h.old, h.F0, h.Fc, h.Fm, fun n x hx => (h.st n x hx).keep (fun _ h => h) hext (Nat.le_refl _) (fun _ _ _ _ _ => rfl) (fun _ _ _ _ _ hok => hok), h.dist, h.fresh, fun X hX => ?_⟩
  rcases hX with hX | rfl
  · exact h.dp X hX
  · exact ⟨h1, .inl h2, h3, h4⟩
/-- a loop's record goes on -/
theorem GamS.setLoop {st : List (Nat × Blk)} {fr : Nat → Prop} {E : Env} {n : Nat} {L : LoopC} {s0 : LoopState} {p0 : Option Code} (h : GamS P B (lkB st) fr E) (hn : lkB st n = some (.loop L s0 p0)) :
    ∃ l rec, E.η n = some (.func (.yield l) #[] #[]) ∧ E.w.heap[l]? = some (.loop rec) ∧ (rec.state = s0 ∧ rec.pending = p0 ∧ rec.tmps = L.tms ∧ rec.params = L.ps ∧ rec.assign = L.assign ∧ rec.body = L.body ∧ l = L.l) ∧
      ∀ s1 p1, GamS P B (lkB (setB n (.loop L s1 p1) st)) fr ⟨E.η, E.F, E.w.putObj l (.loop { rec with state := s1, pending := p1 }), E.dp⟩ ∧ Ext E ⟨E.η, E.F, E.w.putObj l (.loop { rec with state := s1, pending := p1 }), E.dp⟩ := by
  obtain ⟨l, rec, h1, h2, h3, h4⟩ := h.st n _ hn
  refine ⟨l, rec, h1, h2, h3, fun s1 p1 => ?_⟩
  exact GamS.write (x := .loop L s0 p0) (x' := .loop L s1 p1) (σ' := lkB (setB n (.loop L s1 p1) st)) (w' := E.w.putObj l (.loop { rec with state := s1, pending := p1 })) h hn (fun m => lkB_setB _ _ _ _) h1 rfl (fun o' ho' => (h4.2.2.2 o' ho').elim) rfl rfl rfl World.putObj_size (fun i hi => World.putObj_heap_other hi)
    (fun E' hE' hext hok => by
      subst hE'
      exact ⟨l, _, h1, World.putObj_heap_same h4.2.1, ⟨rfl, rfl, h3.2.2⟩, hok⟩)
theorem gam_loop {s : St} {E : Env} {a : Act} (h : Gam P B s E a) (fn : FuncId) (ps : Array Tmp) (assign body : Code) :
    ∃ E1, E1.w = (E.w.alloc (.deferred (some []))).alloc (.loop { state := .ready, pending := none, fn, tmps := a.tmps, params := ps, assign, body, defers := E.w.heap.size }) ∧ E1.η s.nx = some (.func (.yield (E.w.heap.size + 1)) #[] #[]) ∧
      Gam P B ⟨s.tm, (s.nx, .loop ⟨a.tmps, ps, assign, body, E.w.heap.size + 1⟩ .ready none) :: s.st, s.nx + 1⟩ E1 { a with defers := mark E.w.heap.size :: a.defers } ∧ Ext E E1 := by
  obtain ⟨rec, hrec⟩ : ∃ rec : Loop, rec = { state := .ready, pending := none, fn, tmps := a.tmps, params := ps, assign, body, defers := E.w.heap.size } := ⟨_, rfl⟩
  rw [← hrec]
  obtain ⟨w1, hw1⟩ : ∃ w1, w1 = (E.w.alloc (.deferred (some []))).alloc (.loop rec) := ⟨_, rfl⟩
  rw [← hw1]
  have hsz : w1.heap.size = E.w.heap.size + 2 := by rw [hw1]; simp
  have hL : w1.heap[E.w.heap.size + 1]? = some (.loop rec) := by
    rw [hw1]; have := World.alloc_heap_new (E.w.alloc (.deferred (some []))) (.loop rec); rwa [World.size_alloc] at this
  have hD : w1.heap[E.w.heap.size]? = some (.deferred (some [])) := by
    rw [hw1]; exact (Below.heap_alloc _ _ _ (by simp)).trans (World.alloc_heap_new E.w _)
  have hb : Below E.w.heap.size E.w w1 := by
    rw [hw1]; exact ((Below.refl _ E.w).alloc (Nat.le_refl _) _).alloc (by simp) _
  have hs : HStep E (E.name s.nx (.func (.yield (E.w.heap.size + 1)) #[] #[]) E.F w1) s.nx := hstep_name hb FtNew.same
  have hext := hs.ext h.1.lt (h.1.fresh _ (Nat.le_refl _))
  have hσn : lkB s.st s.nx = none := h.1.none_of_fresh (Nat.le_refl _)
  have hF1 : ∀ b, E.w.heap.size ≤ b → ¬ E.F.m b := fun b hb hm => by have := (h.1.Fm b hm).2; omega
  have hF2 : ∀ b, E.w.heap.size ≤ b → ∀ o, ¬ E.F.c b o := fun b hb o hm => by have := (h.1.Fc b o hm).2; omega
  have hS0 := h.1.size
  have hx : NewB P B E (E.name s.nx (.func (.yield (E.w.heap.size + 1)) #[] #[]) E.F w1) s.nx (some (.loop ⟨a.tmps, ps, assign, body, E.w.heap.size + 1⟩ .ready none)) := by
    refine ⟨.func (.yield (E.w.heap.size + 1)) #[] #[], by simp [Env.name], fun b hb => by simp [Go.Proofs.Ytncihbmehbiekaa.hb] at hb; omega, E.w.heap.size + 1, rec, by simp [Env.name], hL, by rw [hrec]; exact ⟨rfl, rfl, rfl, rfl, rfl, rfl, rfl⟩, .inl (by omega), by show _ < w1.heap.size; omega, hF1 _ (by omega), fun o ho => hF2 _ (by omega) o ho⟩
  have G0 := h.1.head (σ' := lkB ((s.nx, .loop ⟨a.tmps, ps, assign, body, E.w.heap.size + 1⟩ .ready none) :: s.st)) (fr' := fun n => s.nx + 1 ≤ n) hs hx (Nat.le_refl _) (fun n => rfl) hσn (fun n hn' => ⟨by omega, fun _ => by omega⟩)
  have G1 := G0.addDp (D := E.w.heap.size) hD hS0 (hF1 _ (Nat.le_refl _)) (hF2 _ (Nat.le_refl _))
  have hext1 : Ext E ⟨(E.name s.nx (.func (.yield (E.w.heap.size + 1)) #[] #[]) E.F w1).η, E.F, w1, fun X => E.dp X ∨ X = E.w.heap.size⟩ := ⟨hext.η, hext.F, hext.k⟩
  obtain ⟨es, e1, e2, e3, e4⟩ := h.2.defers
  have hlt : ∀ X, E.dp X → X < E.w.heap.size := fun X hX => (Array.getElem?_eq_some_iff.1 (h.1.dp X hX).1).1
  refine ⟨_, rfl, by simp [Env.name], ⟨G1, fun t => RV.mono hext1 _ _ (h.2.tm t), ⟨E.w.heap.size :: es, by rw [e1]; rfl, List.nodup_cons.2 ⟨fun hm => by have := hlt _ (e3 _ hm).1; omega, e2⟩, fun X hX => ?_, fun X hX => .inl (e4 X hX)⟩, h.2.size⟩, hext1⟩
  rcases List.mem_cons.1 hX with rfl | hX
  · exact ⟨.inr rfl, fun hg => by have := hlt _ (e4 _ hg); omega⟩
  · exact ⟨.inl (e3 X hX).1, (e3 X hX).2⟩
end
end Go.Proofs.Ytncihbmehbiekaa


namespace Go.Proofs.Ytncihbmehbiekaa
set_option linter.unusedVariables false
set_option linter.unusedSimpArgs false
open Go.RowKit
def rfEnd (Q : AQ) (s : St) : Option Code → Prop
  | none => Q .normal s
  | some .ret => Q .ret s
  | some (.exit i) => Q (.exit i) s
  | _ => False
/-- the iterator's end: the record lies under the name in slot 0 -/
def rfQ (N : Nat) (L : LoopC) (Q : AQ) : AQ := fun e s => match e with
  | .normal | .ret => match lkT s.tm 0 with
    | .yl m => match lkB s.st m with
      | some (.loop L' st pe) => L' = L ∧ st ≠ .busy ∧ rfEnd Q ⟨unT N s.tm, delB m s.st, s.nx⟩ pe
      | _ => False
    | _ => False
  | _ => False
section
variable {P : Program} {B : Base} {T : Tab}
theorem aw_rangeFunc {g : Operand} {ps : Array Tmp} {assign body : Code} {Q : AQ} {s : St} {gf : FuncId} {caps : List V} {fn : Func} {c : Code} (hr0 : B.r = none) (hg : ev (lkT s.tm) g = .fn gf caps) (hco : constOk B.N g = true)
    (hf : P.funcs[gf]? = some fn) (hb : fn.body = some c) (hrs : fn.results = #[]) (hname : (P.funcs[gf]?).any (fun fn => fn.name != "runtime.NumGoroutine" && fn.body.isSome) = true) (hn : 1 + caps.length ≤ fn.ntmps)
    (h : ∀ (a : Act) (L : LoopC), L.ps = ps → L.assign = assign → L.body = body → (L.tms.size = B.N ∧ ∀ t, t < B.N → L.tms.getD t undef = vOf B a t) →
      AW P (B.inn fn.ntmps (vOf B a) (gdOf B a)) c (rfQ fn.ntmps L Q) ⟨⟩ ⟨inV 0 (.yl s.nx :: caps) ++ shT fn.ntmps s.tm, (s.nx, .loop L .ready none) :: s.st, s.nx + 1⟩) : AW P B (.rangeFunc g ps assign body) Q ⟨⟩ s := by
  intro E a hG
  have hfv := ev_ok hG.2 g hco
  rw [hg] at hfv
  simp only [RV] at hfv
  obtain ⟨us, hv, hus⟩ := hfv
  rw [hr0]
  refine wpIn_rangeFunc fun fn0 _ => ?_
  obtain ⟨E1, w1, η1, hG1, hX1⟩ := gam_loop hG fn0 ps assign body
  have hus1 := RVL.mono hX1 _ _ hus
  refine ⟨E.w.heap.size + 1, [mark E.w.heap.size], E1.w, { target := .fn (.func gf) us.toArray, args := #[.func (.yield (E.w.heap.size + 1)) #[] #[]] }, E1.w, gf, #[.func (.yield (E.w.heap.size + 1)) #[] #[]] ++ us.toArray, E1.w, ?_, ?_, fun _ _ => trivial, ?_, fun h => (by cases h), ?_⟩
  · rw [w1]; exact run_enterLoop_outer _ _ _ _ _
  · simp only [resolve, hv]
    simp [Deferred.ofValue, Operand.const, Act.eval]
  · simp [invoke, run_callFunc hname]
  · have hl := hus.len
    have hin := gam_enter (N := fn.ntmps) (vs := .yl s.nx :: caps) (us := .func (.yield (E.w.heap.size + 1)) #[] #[] :: us) hG1 (by simp only [RVL, RV]; exact ⟨_, _, rfl, ⟨η1, _, rfl⟩, hus1⟩) (by simp only [List.length_cons]; omega)
    have eargs : (#[.func (.yield (E.w.heap.size + 1)) #[] #[]] ++ us.toArray : Array Value) = (Value.func (.yield (E.w.heap.size + 1)) #[] #[] :: us).toArray := by simp
    rw [eargs]
    have hvt : ∀ t, t < B.N → a.tmps.getD t undef = vOf B { a with defers := mark E.w.heap.size :: a.defers } t := fun t ht => by unfold vOf; rw [if_pos ht]
    refine callsIn_of_wp_marks (F := fen none) hf hb trivial (Code.wpIn_mono ?_ (h { a with defers := mark E.w.heap.size :: a.defers } ⟨a.tmps, ps, assign, body, E.w.heap.size + 1⟩ rfl rfl rfl ⟨hG.2.size, hvt⟩ E1 _ hin)) rfl
    rintro e a2 w' ⟨E0, s', rfl, hG0, hq⟩
    have key : (match lkT s'.tm 0 with
      | .yl m => match lkB s'.st m with
        | some (.loop L' st pe) => L' = ⟨a.tmps, ps, assign, body, E.w.heap.size + 1⟩ ∧ st ≠ .busy ∧ rfEnd Q ⟨unT fn.ntmps s'.tm, delB m s'.st, s'.nx⟩ pe
        | _ => False
      | _ => False) → LeavesInM Fence.wide 0 P fn a2.tmps (rangePost (fen none) 0 P (E.w.heap.size + 1) (AQQ P B Q) { a with defers := [mark E.w.heap.size] ++ a.defers }) a2.defers .returning E0.w := fun hq => by
      split at hq <;> try exact hq.elim
      rename_i m hm
      split at hq <;> try exact hq.elim
      rename_i L' st pe hst
      obtain ⟨rfl, hnb, hend⟩ := hq
      obtain ⟨ds, hds, hnd, hdp, hgd⟩ := hG0.2.defers
      obtain ⟨E', hS, hX, hk, hL⟩ := leaves_of (fn := fn) (R := rangePost (fen none) 0 P (E.w.heap.size + 1) (AQQ P B Q) { a with defers := [mark E.w.heap.size] ++ a.defers }) ds E0 hG0.1 hnd (fun D hD => (hdp D hD).1) a2.tmps
      have hkeep : ∀ D, gdOf B { a with defers := mark E.w.heap.size :: a.defers } D → E'.dp D := fun D hD => hk D (hgd D hD) (fun hm => (hdp D hm).2 hD)
      obtain ⟨l, rec, l1, l2, l3, l4⟩ := hS.setLoop hst
      have hll : l = E.w.heap.size + 1 := l3.2.2.2.2.2.2
      subst hll
      obtain ⟨S1, X1⟩ := l4 .exhausted pe
      have S2 := S1.sub (σ' := lkB (delB m s'.st)) (fun n x hx => by
        rw [lkB_delB] at hx
        rw [lkB_setB]
        by_cases hnm : n = m
        · rw [if_pos hnm] at hx; cases hx
        · rw [if_neg hnm] at hx ⊢; exact hx)
      have hgl := gam_leave (N := fn.ntmps) (ds := ds) (s' := ⟨s'.tm, delB m s'.st, s'.nx⟩) hG1 S2 (fun t => RV.mono (hX.trans X1) _ _ (hG0.2.tm t)) hkeep
      have hend2 := run_endLoop (P := P) l2 (by rw [l3.1]; exact hnb)
      rw [l3.2.1] at hend2
      rw [hds]
      refine hL (.tuple #[]) (by simp [results, hrs]) ⟨pe, _, hend2, ?_⟩
      cases pe with
      | none => exact ⟨_, _, rfl, hgl, hend⟩
      | some jc =>
        cases jc <;> simp only [rfEnd] at hend
        case ret => exact wpIn_ret ⟨_, _, rfl, hgl, hend⟩
        case exit i => exact wpIn_exit ⟨_, _, rfl, hgl, hend⟩
    cases e <;> simp only [rfQ] at hq <;> first | exact hq.elim | exact key hq
/-- a token -/
structure TokR (ps : Array Tmp) (assign body : Code) (Q : AQ) : Type where
/-- a range over a function that is known -/
def rfI (P : Program) (B : Base) (gf : FuncId) (caps : List V) (ps : Array Tmp) (assign body : Code) (Q : AQ) (s : St) (_ : TokR ps assign body Q) : Prop :=
  B.r = none ∧ ∀ g : Operand, ev (lkT s.tm) g = .fn gf caps → constOk B.N g = true → AW P B (.rangeFunc g ps assign body) Q ⟨⟩ s
theorem aw_rfM {g : Operand} {ps : Array Tmp} {assign body : Code} {Q : AQ} {s : St} (hco : constOk B.N g = true) (h : match ev (lkT s.tm) g with | .fn gf caps => rfI P B gf caps ps assign body Q s ⟨⟩ | _ => False) : AW P B (.rangeFunc g ps assign body) Q ⟨⟩ s := by
  split at h <;> try exact h.elim
  rename_i gf caps hg
  exact h.2 g hg hco
theorem rfI_in {gf : FuncId} {caps : List V} {ps : Array Tmp} {assign body : Code} {Q : AQ} {s : St} {fn : Func} {c : Code} {N N0 : Nat} (hf : P.funcs[gf]? = some fn) (hN : fn.ntmps = N) (hN0 : B.N = N0) (hr0 : B.r = none) (hb : fn.body = some c) (hrs : fn.results.isEmpty = true) (hn : 1 + caps.length ≤ N) (hname : (P.funcs[gf]?).any (fun fn => fn.name != "runtime.NumGoroutine" && fn.body.isSome) = true)
    (h : ∀ (a : Act) (L : LoopC), L.ps = ps → L.assign = assign → L.body = body → (L.tms.size = N0 ∧ ∀ t, t < N0 → L.tms.getD t undef = vOf B a t) →
      AW P (B.inn N (vOf B a) (gdOf B a)) c (rfQ N L Q) ⟨⟩ ⟨inV 0 (.yl s.nx :: caps) ++ shT N s.tm, (s.nx, .loop L .ready none) :: s.st, s.nx + 1⟩) : rfI P B gf caps ps assign body Q s ⟨⟩ := by
  subst hN hN0
  exact ⟨hr0, fun g hg hco => aw_rangeFunc hr0 hg hco hf hb (by simpa using hrs) hname hn h⟩
end
end Go.Proofs.Ytncihbmehbiekaa


namespace Go.Proofs.Ytncihbmehbiekaa
set_option linter.unusedVariables false
set_option linter.unusedSimpArgs false
open Go.RowKit
/-- the n slots from lo on -/
def pickT (lo n : Nat) : List (Nat × V) → List (Nat × V)
  | [] => []
  | (t, v) :: l => if lo ≤ t ∧ t < lo + n then (t - lo, v) :: pickT lo n l else pickT lo n l
theorem lkT_pickT (lo n t : Nat) (ht : t < n) : ∀ l : List (Nat × V), lkT (pickT lo n l) t = lkT l (t + lo)
  | [] => by simp [pickT, lkT]
  | (u, v) :: l => by
    have ih := lkT_pickT lo n t ht l
    unfold pickT
    by_cases h : lo ≤ u ∧ u < lo + n
    · rw [if_pos h]
      simp only [lkT, ih]
      by_cases h2 : t = u - lo
      · rw [if_pos h2, if_pos (by omega)]
      · rw [if_neg h2, if_neg (by omega)]
    · rw [if_neg h, ih]
      simp only [lkT]
      rw [if_neg (by omega)]
theorem pickT_lt (lo n : Nat) : ∀ l : List (Nat × V), ∀ p ∈ pickT lo n l, p.1 < n
  | [], p, h => by cases h
  | (u, v) :: l, p, h => by
    unfold pickT at h
    split at h
    · rename_i h1
      rcases List.mem_cons.1 h with rfl | h
      · show u - lo < n; omega
      · exact pickT_lt lo n l p h
    · exact pickT_lt lo n l p h
/-- params are set -/
def setP : List Nat → List V → List (Nat × V) → List (Nat × V)
  | t :: ts, v :: vs, l => setP ts vs (setT t v l)
  | _, _, l => l
/-- the base of a round -/
def Base.inr (B : Base) (N : Nat) (g : Nat → Value) (gd : Nat → Prop) (l : Nat) : Base := ⟨B.w0, B.S0, B.F0, N, g, some l, gd⟩
theorem setP_lt {N : Nat} : ∀ (ps : List Nat) (vs : List V) (l : List (Nat × V)), (ps.all (fun p => decide (p < N))) = true → (∀ p ∈ l, p.1 < N) → ∀ p ∈ setP ps vs l, p.1 < N
  | [], vs, l, _, h => by unfold setP; exact h
  | t :: ts, [], l, _, h => by unfold setP; exact h
  | t :: ts, v :: vs, l, hp, h => by
    simp only [List.all_cons, Bool.and_eq_true, decide_eq_true_eq] at hp
    unfold setP
    refine setP_lt ts vs _ hp.2 fun p hp' => ?_
    have : ∀ (l : List (Nat × V)), (∀ p ∈ l, p.1 < N) → ∀ p ∈ setT t v l, p.1 < N := by
      intro l
      induction l with
      | nil => intro _ p hp'; simp only [setT, List.mem_singleton] at hp'; subst hp'; exact hp.1
      | cons q l ih =>
        obtain ⟨u, x⟩ := q
        intro h p hp'
        unfold setT at hp'
        split at hp'
        · rcases List.mem_cons.1 hp' with rfl | hp'
          · exact h (u, x) (by simp)
          · exact h p (by simp [hp'])
        · rcases List.mem_cons.1 hp' with rfl | hp'
          · exact h _ (by simp)
          · exact ih (fun q hq => h q (by simp [hq])) p hp'
    exact this l h p hp'
theorem setP_ok {E : Env} {N : Nat} : ∀ (ps : List Nat) (vs : List V) (us : List Value) (l : List (Nat × V)) (arr : Array Value), RVL E vs us → arr.size = N → (∀ t, t < N → RV E (lkT l t) (arr.getD t undef)) →
    ((ps.zip us).foldl (fun (tmps : Array Value) (p : Nat × Value) => tmps.setIfInBounds p.1 p.2) arr).size = N ∧ ∀ t, t < N → RV E (lkT (setP ps vs l) t) (((ps.zip us).foldl (fun (tmps : Array Value) (p : Nat × Value) => tmps.setIfInBounds p.1 p.2) arr).getD t undef)
  | [], vs, us, l, arr, _, hs, h => by unfold setP; simp only [List.zip_nil_left, List.foldl_nil]; exact ⟨hs, h⟩
  | t :: ts, [], us, l, arr, hv, hs, h => by
    simp only [RVL] at hv
    subst hv
    unfold setP
    simp only [List.zip_nil_right, List.foldl_nil]
    exact ⟨hs, h⟩
  | t :: ts, v :: vs, us, l, arr, hv, hs, h => by
    simp only [RVL] at hv
    obtain ⟨u, r, rfl, h1, h2⟩ := hv
    unfold setP
    simp only [List.zip_cons_cons, List.foldl_cons]
    refine setP_ok ts vs r _ _ h2 (by simp [hs]) fun k hk => ?_
    rw [lkT_setT]
    by_cases hkt : k = t
    · subst hkt
      rw [if_pos rfl]
      simpa [Array.getD_eq_getD_getElem?, hs, hk] using h1
    · rw [if_neg hkt]
      have := h k hk
      rwa [show (arr.setIfInBounds t u).getD k undef = arr.getD k undef by simp [Array.getD_eq_getD_getElem?, Array.getElem?_setIfInBounds, Ne.symm hkt]]
section
variable {P : Program} {B : Base} {T : Tab}
theorem gam_round {N off l : Nat} {tms : Array Value} {ps : Array Tmp} {s : St} {E : Env} {a : Act} {vs : List V} {us : List Value} (h : Gam P B s E a) (hv : RVL E vs us) (hps : (ps.toList.all (fun p => decide (p < N))) = true) (hsz : tms.size = N) (hg : ∀ t, t < N → tms.getD t undef = B.g (off + t)) :
    Gam P (B.inr N (vOf B a) (gdOf B a) l) ⟨setP ps.toList vs (pickT (B.N + off) N s.tm) ++ shT N s.tm, s.st, s.nx⟩ E { tmps := (ps.zip us.toArray).foldl (fun tmps (t, a) => tmps.setIfInBounds t a) tms, defers := [] } := by
  obtain ⟨es, e1, e2, e3, e4⟩ := h.2.defers
  have hz : (ps.zip us.toArray).foldl (fun (tmps : Array Value) (x : Tmp × Value) => tmps.setIfInBounds x.1 x.2) tms = (ps.toList.zip us).foldl (fun (tmps : Array Value) (p : Nat × Value) => tmps.setIfInBounds p.1 p.2) tms := by
    rw [← Array.foldl_toList]; simp
  have hz' : (ps.zip us.toArray).foldl (fun tmps (t, a) => tmps.setIfInBounds t a) tms = (ps.toList.zip us).foldl (fun (tmps : Array Value) (p : Nat × Value) => tmps.setIfInBounds p.1 p.2) tms := hz
  rw [hz']
  obtain ⟨k1, k2⟩ := setP_ok ps.toList vs us (pickT (B.N + off) N s.tm) tms hv hsz (fun t ht => by
    rw [lkT_pickT _ _ _ ht, hg t ht]
    have := h.2.tm (t + (B.N + off))
    unfold vOf at this
    rw [if_neg (by omega)] at this
    rwa [show t + (B.N + off) - B.N = off + t by omega] at this)
  have hlt := setP_lt ps.toList vs (pickT (B.N + off) N s.tm) hps (pickT_lt _ _ _)
  refine ⟨GamS.base (B := B) (B' := B.inr N (vOf B a) (gdOf B a) l) rfl rfl rfl h.1, fun t => ?_, ⟨[], rfl, List.nodup_nil, fun D hD => (by cases hD), fun D hD => ?_⟩, k1⟩
  · show RV E (lkT (setP ps.toList vs (pickT (B.N + off) N s.tm) ++ shT N s.tm) t) (if t < N then ((ps.toList.zip us).foldl (fun (tmps : Array Value) (p : Nat × Value) => tmps.setIfInBounds p.1 p.2) tms).getD t undef else vOf B a (t - N))
    by_cases ht : t < N
    · rw [if_pos ht]
      have app : ∀ (l m : List (Nat × V)), (∀ p ∈ m, N ≤ p.1) → lkT (l ++ m) t = lkT l t := by
        intro l m hm
        induction l with
        | nil =>
          have : ∀ m : List (Nat × V), (∀ p ∈ m, N ≤ p.1) → lkT m t = .any := by
            intro m
            induction m with
            | nil => intro _; rfl
            | cons q m ih =>
              obtain ⟨u, x⟩ := q
              intro hm
              simp only [lkT]
              rw [if_neg (fun e => by have := hm (u, x) (by simp); simp only at this; omega)]
              exact ih fun q hq => hm q (by simp [hq])
          simpa [lkT] using this m hm
        | cons q l ih => obtain ⟨u, x⟩ := q; simp only [List.cons_append, lkT, ih]
      rw [app _ _ (fun p hp => ?_)]
      · exact k2 t ht
      · have : ∀ (l : List (Nat × V)), ∀ p ∈ shT N l, N ≤ p.1 := by
          intro l
          induction l with
          | nil => intro p hp; cases hp
          | cons q l ih =>
            obtain ⟨u, x⟩ := q
            intro p hp
            simp only [shT, List.mem_cons] at hp
            rcases hp with rfl | hp
            · show N ≤ u + N; omega
            · exact ih p hp
        exact this _ p hp
    · rw [if_neg ht, lkT_app _ _ _ (fun p hp e => by have := hlt p hp; omega), lkT_shT, if_pos (by omega)]
      exact h.2.tm (t - N)
  · rcases hD with hD | hD
    · exact e4 D hD
    · rw [e1] at hD
      obtain ⟨X, hX, hm⟩ := List.mem_map.1 hD
      have : X = D := by simpa [mark] using hm
      subst this
      exact (e3 X hX).1
/-- a round's end -/
def ydQ (N y : Nat) (L : LoopC) (d : Option Tmp) (K : St → Prop) : AQ := fun e s => match lkT s.tm (N + y) with
  | .yl m => match lkB s.st m with
    | some (.loop L' _ _) => L' = L ∧ match e with
      | .normal => K ⟨put d (.d (.c (.bool true))) (unT N s.tm), setB m (.loop L .ready none) s.st, s.nx⟩
      | .ret => K ⟨put d (.d (.c (.bool false))) (unT N s.tm), setB m (.loop L .done (some .ret)) s.st, s.nx⟩
      | .exit i => K ⟨put d (.d (.c (.bool false))) (unT N s.tm), setB m (.loop L .done (some (.exit i))) s.st, s.nx⟩
      | _ => False
    | _ => False
  | _ => False
/-- the assignments' end -/
def ydA (P : Program) (Bi : Base) (N y : Nat) (L : LoopC) (body : Code) (d : Option Tmp) (K : St → Prop) : AQ := fun e s => match e with
  | .normal => match lkT s.tm (N + y) with
    | .yl m => match lkB s.st m with
      | some (.loop L' .ready pe) => L' = L ∧ AW P Bi body (ydQ N y L d K) ⟨⟩ ⟨s.tm, setB m (.loop L .busy pe) s.st, s.nx⟩
      | _ => False
    | _ => False
  | _ => False
theorem yieldI_in {n N M : Nat} (y off : Nat) {L : LoopC} {ps : Array Tmp} {assign body : Code} {vs : List V} {d : Option Tmp} {s : St} {K : St → Prop} (hr : B.r = none) (hlk : lkB s.st n = some (.loop L .ready none)) (hL1 : L.ps = ps) (hL2 : L.assign = assign) (hL3 : L.body = body)
    (hvs : vs.length = ps.size) (hps : (ps.toList.all (fun p => decide (p < N))) = true) (hsz : L.tms.size = N) (hM : B.N = M) (hg : ∀ t, t < N → L.tms.getD t undef = B.g (off + t)) (hd : (match d with | some t => decide (t < B.N) | none => true) = true)
    (h : ∀ a, AW P (B.inr N (vOf B a) (gdOf B a) L.l) assign (ydA P (B.inr N (vOf B a) (gdOf B a) L.l) N y L body d K) ⟨⟩ ⟨setP ps.toList vs (pickT (M + off) N s.tm) ++ shT N s.tm, s.st, s.nx⟩) : yieldI P B n vs d s K ⟨⟩ := by
  subst hM
  have hd : ∀ t, d = some t → t < B.N := fun t e => by rw [e] at hd; simpa using hd
  subst hL1 hL2 hL3
  refine ⟨hr, fun E a l us hG hη hv => ?_⟩
  obtain ⟨l', rec, h1, h2, h3, h4⟩ := hG.1.setLoop hlk
  rw [hη] at h1
  cases h1
  have hlen := hv.len
  have hrun := run_yield (P := P) (args := us.toArray) h2 (by rw [h3.2.2.2.1]; simp [hlen, hvs])
  refine ⟨_, _, _, _, hrun, ?_⟩
  rw [h3.2.2.1, h3.2.2.2.1, h3.2.2.2.2.1, h3.2.2.2.2.2.1]
  refine roundIn_of_wpIn (F := fen none) trivial ?_
  have hll : l = L.l := h3.2.2.2.2.2.2
  subst hll
  obtain ⟨Bi, hBi⟩ : ∃ Bi, Bi = B.inr N (vOf B a) (gdOf B a) L.l := ⟨_, rfl⟩
  have hb1 : fen Bi.r = (fen none).inRound L.l := by rw [hBi]; rfl
  rw [← hb1]
  have h0 := h a
  rw [← hBi] at h0
  have hGr := gam_round (l := L.l) hG hv hps hsz hg
  rw [← hBi] at hGr
  refine Code.wpIn_mono ?_ (h0 E _ hGr)
  rintro e a1 w1 ⟨E1, s1, rfl, hG1, hq⟩
  cases e <;> simp only [ydA] at hq <;> try exact hq.elim
  split at hq <;> try exact hq.elim
  rename_i m hm
  split at hq <;> try exact hq.elim
  rename_i L' pe' hlm
  obtain ⟨rfl, hbody⟩ := hq
  obtain ⟨l1, rec1, i1, i2, i3, i4⟩ := hG1.1.setLoop hlm
  have hl1 : l1 = L'.l := i3.2.2.2.2.2.2
  subst hl1
  simp only [Exit.then]
  refine ⟨_, run_beginRound i2 i3.1, ?_⟩
  obtain ⟨S2, X2⟩ := i4 .busy pe'
  have hG2 : Gam P Bi ⟨s1.tm, setB m (.loop L' .busy pe') s1.st, s1.nx⟩ ⟨E1.η, E1.F, E1.w.putObj L'.l (.loop { rec1 with state := .busy, pending := pe' }), E1.dp⟩ a1 := ⟨S2, hG1.2.ext X2 rfl⟩
  have hpe : ({ rec1 with state := .busy } : Loop) = { rec1 with state := .busy, pending := pe' } := by rw [← i3.2.1]
  rw [hpe]
  refine Code.wpIn_mono ?_ (hbody _ _ hG2)
  rintro e a2 w2 ⟨E2, s2, rfl, hG3, hq⟩
  unfold ydQ at hq
  split at hq <;> try exact hq.elim
  rename_i m2 hm2
  split at hq <;> try exact hq.elim
  rename_i L'' st2 pe2 hlm2
  obtain ⟨rfl, hq⟩ := hq
  obtain ⟨l2, rec2, j1, j2, j3, j4⟩ := hG3.1.setLoop hlm2
  have hl2 : l2 = L''.l := j3.2.2.2.2.2.2
  subst hl2
  have fin : ∀ (b : Bool) (jump : Option Code), jump.isNone = b → K ⟨put d (.d (.c (.bool b))) (unT N s2.tm), setB m2 (.loop L'' (if jump.isNone then .ready else .done) jump) s2.st, s2.nx⟩ →
      ∃ v w', (Instr.endRound L''.l jump).run P E2.w = .ok v w' ∧ ∃ u E' s', Ending.returned v = .returned u ∧ E'.w = w' ∧ Gam P B s' E' (a.put d u) ∧ K s' := by
    intro b jump hb hK
    obtain ⟨S4, X4⟩ := j4 (if jump.isNone then .ready else .done) jump
    refine ⟨_, _, run_endRound jump j2, _, ⟨E2.η, E2.F, E2.w.putObj L''.l (.loop { rec2 with state := if jump.isNone then .ready else .done, pending := jump }), E2.dp⟩, _, rfl, rfl, ?_, hK⟩
    have hgl : Gam P B ⟨unT N s2.tm, setB m2 (.loop L'' (if jump.isNone then .ready else .done) jump) s2.st, s2.nx⟩ _ a := gam_leave (N := N) (ds := []) (s' := ⟨s2.tm, setB m2 (.loop L'' (if jump.isNone then .ready else .done) jump) s2.st, s2.nx⟩) (a' := a2) hG (GamS.base (B := Bi) (B' := B.inn N (vOf B a) (gdOf B a)) (by rw [hBi]; rfl) (by rw [hBi]; rfl) (by rw [hBi]; rfl) S4) (fun t => by
      have := RV.mono X4 _ _ (hG3.2.tm t)
      rw [hBi] at this
      exact this) (fun X hX => by
      obtain ⟨_, _, _, _, hgd⟩ := hG3.2.defers
      exact hgd X (by rw [hBi]; exact hX))
    refine ⟨hgl.1, hgl.2.put ?_ hd⟩
    rw [hb]
    simp only [RV, RD]
  cases e <;> simp only at hq <;> try exact hq.elim
  · exact fin true none rfl hq
  · exact fin false (some (.exit _)) rfl hq
  · exact fin false (some .ret) rfl hq
end
end Go.Proofs.Ytncihbmehbiekaa


namespace Go.Proofs.Ytncihbmehbiekaa
set_option linter.unusedVariables false
set_option linter.unusedSimpArgs false
open Go.RowKit
/-- a value as data, by what the own maps hold -/
def Frz (st : List (Nat × Blk)) : Nat → V → D → Prop
  | 0, v, d => toD v = some d ∨ ∃ ds, v = .agg (dV ds) ∧ d = .ag ds
  | n + 1, v, d => Frz st 0 v d ∨ ∃ m q k zv z0 es z1 z ds, v = .mp m ∧ d = .mp q k zv z (es.map (·.1)) ds ∧ lkB st m = some (.map q k zv z0 es) ∧ Frz st n z0 z1 ∧ (∀ F w u, RD F w z1 u → RD F w z u) ∧ es.length = ds.length ∧ ∀ (i : Nat) x d', es[i]? = some x → ds[i]? = some d' → Frz st n x.2 d'
theorem Frz.d {st : List (Nat × Blk)} {n : Nat} {x : D} : Frz st n (.d x) x := by
  have h0 : Frz st 0 (.d x) x := by unfold Frz; exact Or.inl rfl
  cases n
  · exact h0
  · unfold Frz; exact Or.inl h0
theorem Frz.ag {st : List (Nat × Blk)} {n : Nat} {ds : List D} : Frz st n (.agg (dV ds)) (.ag ds) := by
  have h0 : Frz st 0 (.agg (dV ds)) (.ag ds) := by unfold Frz; exact Or.inr ⟨ds, rfl, rfl⟩
  cases n
  · exact h0
  · unfold Frz; exact Or.inl h0
theorem Frz.mp {st : List (Nat × Blk)} {n m : Nat} {q : KQ} {k : TypeId} {zv : Value} {z0 : V} {es : List (List Int × V)} {z1 z : D} {cs : List (List Int)} {ds : List D} (h1 : lkB st m = some (.map q k zv z0 es)) (h2 : Frz st n z0 z1) (h3 : ∀ F w u, RD F w z1 u → RD F w z u) (hc : cs = es.map (·.1)) (h4 : es.length = ds.length) (h5 : ∀ (i : Nat) x d', es[i]? = some x → ds[i]? = some d' → Frz st n x.2 d') :
    Frz st (n + 1) (.mp m) (.mp q k zv z cs ds) := by
  unfold Frz
  exact Or.inr ⟨m, q, k, zv, z0, es, z1, z, ds, rfl, by rw [hc], h1, h2, h3, h4, h5⟩
section
variable {P : Program} {B : Base} {T : Tab}
theorem keyOk_int {k : TypeId} (hk : P.underlying k = some (.int .i64)) : KeyOk P k .i := by
  refine ⟨Go.Maps.int_keyed hk, fun u c hu hc => ?_⟩
  obtain ⟨n, rfl, rfl⟩ := keyC_i hu
  have hn : -9223372036854775808 ≤ n ∧ n ≤ 9223372036854775807 := hc.1
  rw [Go.Maps.keyOf_int_mk hk (by simp [Lit.wf, IntKind.min, IntKind.max, IntKind.signed, IntKind.bits]; omega)]
  rfl
end
end Go.Proofs.Ytncihbmehbiekaa


namespace Go.Proofs.Ytncihbmehbiekaa
set_option linter.unusedVariables false
set_option linter.unusedSimpArgs false
open Go.RowKit
section
variable {α : Type}
abbrev AM (α : Type) := List (List Int × α)
def lkA (c : List Int) : AM α → Option α
  | [] => none
  | (d, x) :: l => if c = d then some x else lkA c l
def upA (c : List Int) (v : α) : AM α → AM α
  | [] => [(c, v)]
  | (d, x) :: l => if c = d then (c, v) :: l else (d, x) :: upA c v l
def mpV (f : α → V) : AM α → List (List Int × V)
  | [] => []
  | (d, x) :: l => (d, f x) :: mpV f l
theorem mpV_nil (f : α → V) : mpV f [] = [] := rfl
theorem lkM_mpV (f : α → V) (c : List Int) : ∀ m : AM α, lkM c (mpV f m) = (lkA c m).map f
  | [] => rfl
  | (d, x) :: l => by
    simp only [mpV, lkM, lkA]
    split
    · rfl
    · exact lkM_mpV f c l
theorem upM_mpV (f : α → V) (c : List Int) (v : α) : ∀ m : AM α, upM c (f v) (mpV f m) = mpV f (upA c v m)
  | [] => rfl
  | (d, x) :: l => by
    simp only [mpV, upM, upA]
    split
    · rfl
    · rw [mpV, upM_mpV f c v l]
theorem mpV_keys (f : α → V) : ∀ m : AM α, (mpV f m).map (·.1) = m.map (·.1)
  | [] => rfl
  | (d, x) :: l => by simp only [mpV, List.map_cons, mpV_keys f l]
theorem zipM_mpV (g : α → D) (f : α → V) (h : ∀ x, vD (g x) = f x) : ∀ m : AM α, zipM (m.map (·.1)) (m.map (fun p => g p.2)) = mpV f m
  | [] => rfl
  | (d, x) :: l => by simp only [List.map_cons, zipM, mpV, h, zipM_mpV g f h l]
theorem lkA_upA (c d : List Int) (v : α) : ∀ m : AM α, lkA c (upA d v m) = if c = d then some v else lkA c m
  | [] => by simp only [upA, lkA]
  | (e, x) :: l => by
    simp only [upA]
    by_cases h : d = e
    · subst h
      rw [if_pos rfl]
      simp only [lkA]
      split <;> rfl
    · rw [if_neg h]
      simp only [lkA, lkA_upA c d v l]
      by_cases h1 : c = e
      · subst h1
        rw [if_pos rfl, if_neg (fun e => h e.symm), if_pos rfl]
      · rw [if_neg h1, if_neg h1]
theorem subM_mpV {ρ : Ren} {f : α → V} (h : ∀ a, subV ρ (f a) (f a)) : ∀ {m m' : AM α}, m = m' → subM ρ (mpV f m) (mpV f m')
  | [], _, e => by subst e; trivial
  | (d, a) :: m, _, e => by subst e; exact ⟨⟨rfl, h a⟩, subM_mpV h rfl⟩
end
end Go.Proofs.Ytncihbmehbiekaa


namespace Go.Proofs.Ytncihbmehbiekaa
set_option linter.unusedVariables false
set_option linter.unusedSimpArgs false
open Go.RowKit
section
variable {F : Fence} {n : Nat} {P : Program} {Q : Exit → Act → World → Prop} {a : Act} {w : World}
theorem stepR_scope {b : Frame} {k : List Item} {cs : List Frame} {c : Code} : step P (lone (b.atR a (.code (.scope c) :: k)) cs w) = .next (lone (b.atR a (.code c :: .inScope c :: k)) cs w) :=
  step_lone_go (by simp [stepG, stepG.exec, Frame.atR])
theorem stepR_inScope {b : Frame} {k : List Item} {cs : List Frame} {c : Code} : step P (lone (b.atR a (.inScope c :: k)) cs w) = .next (lone (b.atR a k) cs w) :=
  step_lone_go (by simp [stepG, stepG.exec, Frame.atR])
theorem wpIn_scope {c : Code} (h : c.wpIn F n P (Exit.noGoto Q) a w) : (Code.scope c).wpIn F n P Q a w := by
  intro b k cs hro hb hr
  have h0 : (lone (b.atR a (.code (.scope c) :: k)) cs w).fenced P F := fenced_calm hb hr rfl
  obtain ⟨e, a₁, w₁, hq, harr⟩ := h b (.inScope c :: k) cs hro hb hr
  cases e with
  | normal => exact ⟨.normal, a₁, w₁, hq, .head h0 stepR_scope (StepsIn.trans harr (.one (fenced_calm hb hr rfl) stepR_inScope))⟩
  | exit id =>
    have hx : exitTo id (.inScope c :: k) = exitTo id k := by simp [exitTo]
    exact ⟨.exit id, a₁, w₁, hq, fun k' hk => .head h0 stepR_scope (harr.1 k' (by rw [hx]; exact hk)),
      fun hr' hk => let ⟨k₁, h1, h2⟩ := harr.2 hr' (by rw [hx]; exact hk); ⟨k₁, h1, .head h0 stepR_scope h2⟩⟩
  | goto l => exact hq.elim
  | ret => exact ⟨_, a₁, w₁, hq, .of_steps (.one h0 stepR_scope) harr⟩
  | panic ch => exact ⟨_, a₁, w₁, hq, .of_steps (.one h0 stepR_scope) harr⟩
  | outgrown => exact ⟨_, a₁, w₁, hq, .of_steps (.one h0 stepR_scope) harr⟩
end
section
variable {P : Program} {B : Base} {Q : AQ} {s : St}
theorem aw_scope {c : Code} (h : AW P B c (fun e s' => match e with | .goto _ => False | e => Q e s') ⟨⟩ s) : AW P B (.scope c) Q ⟨⟩ s := fun E a hG => by
  refine wpIn_scope (Code.wpIn_mono ?_ (h E a hG))
  rintro e a' w' ⟨E', s', rfl, hG', hq⟩
  cases e with
  | goto l => exact hq.elim
  | _ => exact ⟨E', s', rfl, hG', hq⟩
theorem aw_label {l : Nat} (h : Q .normal s) : AW P B (.label l) Q ⟨⟩ s := fun E a hG => wpIn_label ⟨E, s, rfl, hG, h⟩
end
end Go.Proofs.Ytncihbmehbiekaa


namespace Go.Proofs.Ytncihbmehbiekaa
set_option linter.unusedVariables false
set_option linter.unusedSimpArgs false
open Go.RowKit
/-- such a region with a write (index iw) among the heads: it waits for less than the tail, and no other head reads what it writes -/
def drawOkS (l : List Oper) (hd tail : List Nat) (iw : Nat) : Bool :=
  sinkT .any l.toArray (fun i => hd.contains i) && tail.all (fun t => !hd.contains t) && (List.range l.length).all (fun i => hd.contains i || tail.contains i) && hd.all (fun i => decide (i < l.length)) && decide hd.Nodup &&
  (List.range l.length).all (fun i => match l[i]? with | some o => o.after.toList.all fun e => !Region.binds .any e || decide (e.on < i) | none => true) && incr (pickOps l (hd.filter (fun i => i != iw))) &&
  (pickOps l (hd.filter (fun i => i != iw))).all (fun p => (p.2.looksAt l.toArray).all fun t => (pickOps l (hd.filter (fun i => i != iw))).all fun q => q.2.dst != some t || (if q.1 < p.1 then reachB .any l.toArray l.length p.1 q.1 else decide (p.1 < q.1) && reachB .any l.toArray l.length q.1 p.1)) &&
  seqT .any l.toArray tail (canonH l.length hd) && decide (hd.length + tail.length = l.length) && hd.contains iw &&
  (match l[iw]? with
    | some o => o.dst == none && o.guard == none && (o.looksAt l.toArray).all fun t => (pickOps l (hd.filter (fun i => i != iw))).all fun q => q.2.dst != some t || reachB .any l.toArray l.length iw q.1
    | none => false)
section
variable {P : Program} {B : Base} {T : Tab}
theorem wpAny_headsS {l : List Oper} {hd tail : List Nat} {iw : Nat} {Q : Exit → Act → World → Prop} {tm0 tmF : List (Nat × V)} {st00 st01 st0 st1 nbF : List (Nat × Blk)} {nx : Nat} (hok : drawOkS l hd tail iw = true) (hrun : HRun P B l.toArray st00 nx tmF nbF (pickOps l (hd.filter (fun i => i != iw))) tm0 []) (hrun1 : HRun P B l.toArray st01 nx tmF nbF (pickOps l (hd.filter (fun i => i != iw))) tm0 []) (hN : (l.all (opOk B.N)) = true)
    (hst0 : ∀ n, nx ≤ n → lkB st0 n = none) (hst1 : ∀ n, nx ≤ n → lkB st1 n = none) (hs0 : ∀ n b, lkB st00 n = some b → lkB st0 n = some b) (hs1 : ∀ n b, lkB st01 n = some b → lkB st1 n = some b)
    (hwr : ∀ ow, l[iw]? = some ow → ∀ (tm : Nat → V) (σ : Nat → Option Blk) (fr : Nat → Prop) (E : Env) (a : Act), GamS P B σ fr E → GamT B tm E a → (∀ n, n < nx → σ n = lkB st0 n) → (∀ t ∈ ow.looksAt l.toArray, tm t = lkT tmF t) →
      Upon P (fun u w' => ∃ E', E'.w = w' ∧ GamS P B (fun n => if n < nx then lkB st1 n else σ n) fr E' ∧ Ext E E' ∧ E'.dp = E.dp) ((execOp a.eval ow).run P E.w))
    (hQ : ∀ E a, Gam P B ⟨tmF, nbF ++ st1, nx + l.length⟩ E a → wpListIn (fen B.r) 0 P l.toArray Q ((pickOps l tail).map (·.2)) a E.w) :
    ∀ (F : Nat) (listed : Array Bool) (E : Env) (a : Act), GInv .any l.toArray listed → (∀ t ∈ tail, listed.getD t false = false) → hd.countP (fun i => !listed.getD i false) = F →
      GamS P B (fun n => if nx ≤ n then (if listed.getD (n - nx) false = true then lkB nbF n else none) else if listed.getD iw false = true then lkB st1 n else lkB st0 n) (fun n => nx ≤ n ∧ (listed.getD (n - nx) false = true → lkB nbF n = none)) E →
      GamT B (fun t => if ((pickOps l (hd.filter (fun i => i != iw))).any fun p => p.2.dst == some t && listed.getD p.1 false) = true then lkT tmF t else lkT tm0 t) E a → wpAnyIn (fen B.r) 0 P .any l.toArray Q (F + tail.length) listed a E.w := by
  simp only [drawOkS, Bool.and_eq_true] at hok
  obtain ⟨⟨⟨⟨⟨⟨⟨⟨⟨⟨⟨hsink, htl⟩, hpart⟩, hlt⟩, hnd⟩, hedge⟩, hincr⟩, hdep⟩, hseq⟩, _⟩, hiwh⟩, hwok⟩ := hok
  have hiwh' : iw ∈ hd := by simpa using hiwh
  have hmN : ∀ {j : Nat}, j ∈ hd.filter (fun i => i != iw) ↔ j ∈ hd ∧ j ≠ iw := fun {j} => by simp [List.mem_filter]
  obtain ⟨f1, f2, _⟩ := hrun_facts _ _ _ hincr hrun
  have hnd' : hd.Nodup := by simpa using hnd
  have htl' : ∀ t ∈ tail, hd.contains t = false := fun t ht => by have := List.all_eq_true.1 htl t ht; simpa using this
  intro F
  induction F with
  | zero =>
    intro listed E a inv hT hcnt hS hGT
    have hall : ∀ i ∈ hd, listed.getD i false = true := fun i hi => by
      have := List.countP_eq_zero.1 hcnt i hi
      simpa using this
    have hsz : listed.size = l.length := by rw [inv.size]; simp
    have hcan : listed = canonH l.length hd := by
      refine Array.ext_getElem? fun i => ?_
      have hcs := (foldl_canon hd (Array.replicate l.length false) i)
      have hcsz : (canonH l.length hd).size = l.length := by unfold canonH; rw [hcs.1]; simp
      by_cases hi : i < l.length
      · have e1 : listed[i]? = some (listed.getD i false) := by simp [Array.getD_eq_getD_getElem?, hsz, hi]
        have e2 : (canonH l.length hd)[i]? = some ((canonH l.length hd).getD i false) := by simp [Array.getD_eq_getD_getElem?, hcsz, hi]
        rw [e1, e2]
        congr 1
        unfold canonH
        rw [hcs.2]
        rw [getD_replicate_false]
        simp only [Array.size_replicate, Bool.false_or]
        by_cases hh : hd.contains i = true
        · rw [hh, hall i (by simpa using hh)]; simp [hi]
        · have := List.all_eq_true.1 hpart i (List.mem_range.2 hi)
          simp only [Bool.or_eq_true] at this
          rcases this with h | h
          · exact (hh h).elim
          · rw [hT i (by simpa using h)]; simp only [Bool.not_eq_true] at hh; rw [hh]; rfl
      · rw [Array.getElem?_eq_none (by omega), Array.getElem?_eq_none (by omega)]
    rw [Nat.zero_add]
    refine wpAnyIn_of_seqT tail listed a E.w (by rw [hcan]; exact hseq) (hQ E a ⟨hS.congr (fun n => ?_) (fun n hn => ?_), ⟨fun t => ?_, hGT.defers, hGT.size⟩⟩)
    · -- the blocks
      have hap : lkB (nbF ++ st1) n = match lkB nbF n with | some b => some b | none => lkB st1 n := by
        generalize nbF = nb
        induction nb with
        | nil => rfl
        | cons p nb ih =>
          obtain ⟨k, b⟩ := p
          simp only [List.cons_append, lkB]
          split
          · rfl
          · exact ih
      show lkB (nbF ++ st1) n = _
      rw [hap]
      by_cases hn : nx ≤ n
      · rw [if_pos hn]
        by_cases hh : hd.contains (n - nx) = true
        · rw [if_pos (hall _ (by simpa using hh)), hst1 n hn]; cases lkB nbF n <;> rfl
        · have : lkB nbF n = none := by
            rw [f2 n (fun p hp e => hh ?_)]; rfl
            have := (hmN.1 (pickOps_mem.1 hp).1).1
            rw [e, Nat.add_sub_cancel_left]; simpa using this
          rw [this, hst1 n hn]; simp
      · rw [if_neg hn, if_pos (hall iw hiwh')]
        have : lkB nbF n = none := by
          rw [f2 n (fun p hp e => by omega)]; rfl
        rw [this]
    · have hn' : nx + l.length ≤ n := hn
      refine ⟨by omega, fun h => ?_⟩
      rw [show listed.getD (n - nx) false = false by
        simp [Array.getD_eq_getD_getElem?, Array.getElem?_eq_none (show listed.size ≤ n - nx by omega)]] at h
      cases h
    · have := hGT.tm t
      show RV E (lkT tmF t) _
      by_cases hw : ((pickOps l (hd.filter (fun i => i != iw))).any fun p => p.2.dst == some t && listed.getD p.1 false) = true
      · rw [if_pos hw] at this; exact this
      · rw [if_neg hw] at this
        rw [f1 t (fun p hp e => hw (List.any_eq_true.2 ⟨p, hp, by simp [e, hall p.1 (hmN.1 (pickOps_mem.1 hp).1).1]⟩))]
        exact this
  | succ F ih =>
    intro listed E a inv hT hcnt hS hGT
    have hsz : listed.size = l.length := by rw [inv.size]; simp
    rw [show F + 1 + tail.length = (F + tail.length) + 1 by omega]
    -- an operation of the head that has not run
    obtain ⟨k, hk, hku⟩ : ∃ k, k ∈ hd ∧ listed.getD k false = false := by
      have : 0 < hd.countP (fun i => !listed.getD i false) := by omega
      obtain ⟨k, h1, h2⟩ := List.countP_pos_iff.1 this
      exact ⟨k, h1, by simpa using h2⟩
    have hkl : k < l.length := by have := List.all_eq_true.1 hlt k hk; simpa using this
    have hku' : listed.getD k true = false := getD_in (by omega) hku
    refine ⟨fun hr => ?_, fun i hi => ?_⟩
    · -- the least that has not run is ready
      obtain ⟨m, ⟨hm1, hm2⟩, hm3⟩ := exists_min (p := fun m => m < l.length ∧ listed.getD m false = false) ⟨k, hkl, hku⟩
      have : m ∈ Region.ready .any l.toArray listed := by
        refine mem_ready.2 ⟨getD_in (by omega) hm2, l[m], by simp [hm1], fun e he hb => ?_⟩
        have h1 := List.all_eq_true.1 hedge m (List.mem_range.2 hm1)
        rw [List.getElem?_eq_getElem hm1] at h1
        have h2 := List.all_eq_true.1 h1 e (by simpa using he)
        rw [hb] at h2
        simp at h2
        cases hc : listed.getD e.on false with
        | true => rfl
        | false => exact (hm3 e.on h2 ⟨by omega, hc⟩).elim
      rw [hr] at this
      cases this
    · have hih := sink_spec hsink inv (i := k) (by simpa using hkl) (by simpa using hk) hku' hi
      have hi' : i ∈ hd := by simpa using hih
      obtain ⟨hiun, o, ho, hafter⟩ := mem_ready.1 hi
      have hol : l[i]? = some o := by simpa using ho
      have hil : i < l.length := (List.getElem?_eq_some_iff.1 hol).1
      have hiun' := getD_both hiun
      have hopk := List.all_eq_true.1 hN o (List.mem_of_getElem? hol)
      have inv2 := inv.set hi
      have hself : (listed.setIfInBounds i true).getD i false = true := by simp [hsz, hil]
      have hoth : ∀ j, j ≠ i → (listed.setIfInBounds i true).getD j false = listed.getD j false := fun j hj => getD_set_ne false (Ne.symm hj)
      have hT2 : ∀ t ∈ tail, (listed.setIfInBounds i true).getD t false = false := fun t ht => by
        rw [hoth t (fun e => by have := htl' t ht; rw [e] at this; rw [this] at hih; cases hih)]; exact hT t ht
      have hcnt2 : hd.countP (fun j => !(listed.setIfInBounds i true).getD j false) = F := by
        have := countP_set hnd' hi' (f := fun j => !listed.getD j false) (g := fun j => !(listed.setIfInBounds i true).getD j false) (by simp [hiun']) (by simp [hself]) (fun j hj => by rw [hoth j hj])
        omega
      by_cases hiw : i = iw
      · -- the write
        subst hiw
        rw [hol] at hwok
        simp only [Bool.and_eq_true] at hwok
        obtain ⟨⟨hwd, hwg⟩, hwl⟩ := hwok
        have hwd' : o.dst = none := by simpa using hwd
        have hwg' : o.guard = none := by simpa using hwg
        have hag : ∀ t ∈ o.looksAt l.toArray, (if ((pickOps l (hd.filter (fun j => j != i))).any fun p => p.2.dst == some t && listed.getD p.1 false) = true then lkT tmF t else lkT tm0 t) = lkT tmF t := fun t ht => by
          by_cases hw : ((pickOps l (hd.filter (fun j => j != i))).any fun p => p.2.dst == some t && listed.getD p.1 false) = true
          · rw [if_pos hw]
          · rw [if_neg hw]
            refine (f1 t (fun q hq hqt => hw (List.any_eq_true.2 ⟨q, hq, ?_⟩))).symm
            have h1 := List.all_eq_true.1 (List.all_eq_true.1 hwl t ht) q hq
            simp only [Bool.or_eq_true, bne_iff_ne, ne_eq] at h1
            rcases h1 with h | h
            · exact (h hqt).elim
            · have := reach_listed inv _ _ _ h (fun o' ho' e he hb => by
                have : o' = o := Option.some.inj (ho'.symm.trans ho)
                subst this
                exact hafter e he hb)
              simp [hqt, this]
        have hw : Region.wanted o (yielded l.toArray a.tmps) = true := by simp [Region.wanted, hwg']
        have h1 := hwr o hol _ _ _ E a hS hGT (fun n hn => by rw [if_neg (by omega), hiun', if_neg (by simp)]) hag
        unfold wpOpIn
        simp only [ho, hw, if_true]
        refine h1.wpIn ?_
        rintro u w' ⟨E', rfl, hS', hext, hdp⟩
        rw [hwd']
        refine ih _ E' _ inv2 hT2 hcnt2 (hS'.congr (fun n => ?_) (fun n hn => ⟨hn.1, fun h => hn.2 (getD_set_true h)⟩)) ⟨fun t => ?_, ((hGT.ext hext hdp)).defers, hGT.size⟩
        · by_cases hn : nx ≤ n
          · have h3 : ¬ n < nx := by omega
            simp only [if_pos hn, if_neg h3]
            by_cases hni : n - nx = i
            · have hn' : n = nx + i := by omega
              have : lkB nbF n = none := by
                rw [f2 n (fun p hp e => by
                  have := (hmN.1 (pickOps_mem.1 hp).1).2
                  omega)]; rfl
              rw [this]
              simp
            · rw [hoth _ hni]
          · have h3 : n < nx := by omega
            simp only [if_neg hn, if_pos h3, if_pos hself]
        · have := (hGT.ext hext hdp).tm t
          have e : ((pickOps l (hd.filter (fun j => j != i))).any fun p => p.2.dst == some t && (listed.setIfInBounds i true).getD p.1 false) = ((pickOps l (hd.filter (fun j => j != i))).any fun p => p.2.dst == some t && listed.getD p.1 false) := by
            rw [Bool.eq_iff_iff, List.any_eq_true, List.any_eq_true]
            constructor
            · rintro ⟨p, hp, h⟩
              rw [hoth p.1 (hmN.1 (pickOps_mem.1 hp).1).2] at h
              exact ⟨p, hp, h⟩
            · rintro ⟨p, hp, h⟩
              refine ⟨p, hp, ?_⟩
              rw [hoth p.1 (hmN.1 (pickOps_mem.1 hp).1).2]
              exact h
          rw [e]
          exact this
      have hmem : (i, o) ∈ pickOps l (hd.filter (fun i => i != iw)) := pickOps_mem.2 ⟨hmN.2 ⟨hi', hiw⟩, hol⟩
      obtain ⟨stX, hrX, hst⟩ : ∃ stX, HRun P B l.toArray stX nx tmF nbF (pickOps l (hd.filter (fun i => i != iw))) tm0 [] ∧ ∀ n b, lkB stX n = some b → (if nx ≤ n then (if listed.getD (n - nx) false = true then lkB nbF n else none) else if listed.getD iw false = true then lkB st1 n else lkB st0 n) = some b := by
        by_cases hli : listed.getD iw false = true
        · refine ⟨st01, hrun1, fun n b hb => ?_⟩
          by_cases hn : nx ≤ n
          · have := hs1 n b hb; rw [hst1 n hn] at this; cases this
          · rw [if_neg hn, if_pos hli]; exact hs1 n b hb
        · refine ⟨st00, hrun, fun n b hb => ?_⟩
          by_cases hn : nx ≤ n
          · have := hs0 n b hb; rw [hst0 n hn] at this; cases this
          · rw [if_neg hn, if_neg hli]; exact hs0 n b hb
      obtain ⟨_, _, f3⟩ := hrun_facts _ _ _ hincr hrX
      obtain ⟨tmi, v, x, g1, g2, g3, g4, g5⟩ := f3 (i, o) hmem
      simp only at g1 g2 g3 g4 g5
      have g3 := g3 rfl
      -- what it looks at is as it was evaluated
      have hag : ∀ t ∈ o.looksAt l.toArray, (if ((pickOps l (hd.filter (fun i => i != iw))).any fun p => p.2.dst == some t && listed.getD p.1 false) = true then lkT tmF t else lkT tm0 t) = tmi t := fun t ht => by
        have hd1 := List.all_eq_true.1 hdep (i, o) hmem
        have hd2 := List.all_eq_true.1 hd1 t ht
        by_cases hw : ((pickOps l (hd.filter (fun i => i != iw))).any fun p => p.2.dst == some t && listed.getD p.1 false) = true
        · rw [if_pos hw]
          obtain ⟨q, hq, hq2⟩ := List.any_eq_true.1 hw
          simp only [Bool.and_eq_true, beq_iff_eq] at hq2
          have hd3 := List.all_eq_true.1 hd2 q hq
          simp only [Bool.or_eq_true, bne_iff_ne, ne_eq] at hd3
          rcases hd3 with h | h
          · exact (h hq2.1).elim
          · by_cases hlt2 : q.1 < i
            · exact (g4 t q hq hlt2 hq2.1).symm
            · rw [if_neg hlt2] at h
              simp only [Bool.and_eq_true, decide_eq_true_eq] at h
              have := reach_listed inv _ _ _ h.2 (fun o' ho' e he hb => inv.closed q.1 o' ho' hq2.2 e he hb)
              rw [hiun'] at this
              cases this
        · rw [if_neg hw]
          refine (g5 t (fun q hq hql hqt => hw (List.any_eq_true.2 ⟨q, hq, ?_⟩))).symm
          have hd3 := List.all_eq_true.1 hd2 q hq
          simp only [Bool.or_eq_true, bne_iff_ne, ne_eq] at hd3
          rcases hd3 with h | h
          · exact (h hqt).elim
          · rw [if_pos hql] at h
            have := reach_listed inv _ _ _ h (fun o' ho' e he hb => by
              have : o' = o := Option.some.inj (ho'.symm.trans ho)
              subst this
              exact hafter e he hb)
            simp [hqt, this]
      obtain ⟨h1, h2⟩ := g1 _ _ _ E a hS hGT ⟨by omega, fun h => by rw [Nat.add_sub_cancel_left, hiun'] at h; cases h⟩ hst hag
      have hoiw : (listed.setIfInBounds i true).getD iw false = listed.getD iw false := hoth iw (fun e => hiw e.symm)
      have hσ2 : ∀ n, (if nx ≤ n then (if (listed.setIfInBounds i true).getD (n - nx) false = true then lkB nbF n else none) else if (listed.setIfInBounds i true).getD iw false = true then lkB st1 n else lkB st0 n) = if n = nx + i then x else (if nx ≤ n then (if listed.getD (n - nx) false = true then lkB nbF n else none) else if listed.getD iw false = true then lkB st1 n else lkB st0 n) := fun n => by
        by_cases hn : n = nx + i
        · subst hn
          rw [if_pos rfl, if_pos (by omega), Nat.add_sub_cancel_left, if_pos hself, g3]
        · rw [if_neg hn]
          by_cases hn2 : nx ≤ n
          · rw [if_pos hn2, if_pos hn2, hoth (n - nx) (by omega)]
          · rw [if_neg hn2, if_neg hn2, hoiw]
      have hfr2 : ∀ n, (nx ≤ n ∧ ((listed.setIfInBounds i true).getD (n - nx) false = true → lkB nbF n = none)) → (nx ≤ n ∧ (listed.getD (n - nx) false = true → lkB nbF n = none)) ∧ (x.isSome = true → n ≠ nx + i) := fun n hn => by
        refine ⟨⟨hn.1, fun h => hn.2 (getD_set_true h)⟩, fun hx e => ?_⟩
        subst e
        have := hn.2 (by rw [Nat.add_sub_cancel_left]; exact hself)
        rw [g3] at this
        rw [this] at hx
        cases hx
      have htm2 : ∀ t, (if ((pickOps l (hd.filter (fun i => i != iw))).any fun p => p.2.dst == some t && (listed.setIfInBounds i true).getD p.1 false) = true then lkT tmF t else lkT tm0 t) = if o.dst = some t then v else (if ((pickOps l (hd.filter (fun i => i != iw))).any fun p => p.2.dst == some t && listed.getD p.1 false) = true then lkT tmF t else lkT tm0 t) := fun t => by
        by_cases hd1 : o.dst = some t
        · rw [if_pos hd1, if_pos (List.any_eq_true.2 ⟨(i, o), hmem, by simp [hd1, hself]⟩), g2 t hd1]
        · rw [if_neg hd1]
          have : ((pickOps l (hd.filter (fun i => i != iw))).any fun p => p.2.dst == some t && (listed.setIfInBounds i true).getD p.1 false) = ((pickOps l (hd.filter (fun i => i != iw))).any fun p => p.2.dst == some t && listed.getD p.1 false) := by
            rw [Bool.eq_iff_iff, List.any_eq_true, List.any_eq_true]
            constructor
            · rintro ⟨p, hp, h⟩
              simp only [Bool.and_eq_true, beq_iff_eq] at h
              have hpi : p.1 ≠ i := fun e => by
                have := (pickOps_mem.1 hp).2
                rw [e, hol] at this
                injection this with this
                rw [← this] at h
                exact hd1 h.1
              rw [hoth p.1 hpi] at h
              exact ⟨p, hp, by simp [h.1, h.2]⟩
            · rintro ⟨p, hp, h⟩
              simp only [Bool.and_eq_true, beq_iff_eq] at h
              exact ⟨p, hp, by simp [h.1, getD_set_true h.2]⟩
          rw [this]
      have hdN : ∀ t, o.dst = some t → t < B.N := fun t e => by
        have : (match o.dst with | some d => decide (d < B.N) | none => true) = true := by
          simp only [opOk, Bool.and_eq_true] at hopk; exact hopk.2
        rw [e] at this
        simpa using this
      unfold wpOpIn
      simp only [ho]
      cases hw : Region.wanted o (yielded l.toArray a.tmps) with
      | true =>
        rw [if_pos rfl]
        refine (h1 hw).wpIn ?_
        rintro u w' ⟨E', rfl, hS', hext, hdp, hv⟩
        exact ih _ E' _ inv2 hT2 hcnt2 (hS'.congr hσ2 hfr2) ((hGT.ext hext hdp).putF (fun t e => ⟨hv, hdN t e⟩) htm2)
      | false =>
        rw [if_neg (by simp)]
        obtain ⟨rfl, hv⟩ := h2 hw
        have hσn : ∀ n, (if n = nx + i then none else (if nx ≤ n then (if listed.getD (n - nx) false = true then lkB nbF n else none) else if listed.getD iw false = true then lkB st1 n else lkB st0 n)) = (if nx ≤ n then (if listed.getD (n - nx) false = true then lkB nbF n else none) else if listed.getD iw false = true then lkB st1 n else lkB st0 n) := fun n => by
          by_cases hn : n = nx + i
          · subst hn; rw [if_pos rfl, if_pos (by omega), Nat.add_sub_cancel_left, hiun', if_neg (by simp)]
          · rw [if_neg hn]
        exact ⟨fun _ _ => trivial, ih _ E _ inv2 hT2 hcnt2 (hS.congr (fun n => (hσ2 n).trans (hσn n)) (fun n hn => (hfr2 n hn).1)) (hGT.putF (fun t e => ⟨hv, hdN t e⟩) htm2)⟩
/-- the early write, evaluated -/
def earlyK (T : Tab) (o : Option Oper) (n : Nat) (tm : List (Nat × V)) (st : List (Nat × Blk)) (K : List (Nat × Blk) → Prop) : Prop := match o with
  | some o => match o.op with
    | .store t x y => match ty T t, ev (lkT tm) x with
      | some i, .ptr m off => match lkB st n, vcells (ev (lkT tm) y) with
        | some (.cells t' cs), some vs => m = n ∧ vs.length = i.sz ∧ off + i.sz ≤ cs.length ∧ K (setB n (.cells t' (splice cs off vs)) st)
        | _, _ => False
      | _, _ => False
    | _ => False
  | none => False
theorem early_ok (hT : TabOk P T) {l : List Oper} {iw n nx : Nat} {tm : List (Nat × V)} {st : List (Nat × Blk)} {K : List (Nat × Blk) → Prop} (hN : (l.all (opOk B.N)) = true) (hst : ∀ m, nx ≤ m → lkB st m = none) (h : earlyK T l[iw]? n tm st K) :
    ∃ st1, K st1 ∧ (∀ m, nx ≤ m → lkB st1 m = none) ∧ (∀ m, m ≠ n → lkB st1 m = lkB st m) ∧ ∀ ow, l[iw]? = some ow → ∀ (tm' : Nat → V) (σ : Nat → Option Blk) (fr : Nat → Prop) (E : Env) (a : Act), GamS P B σ fr E → GamT B tm' E a → (∀ n, n < nx → σ n = lkB st n) → (∀ t ∈ ow.looksAt l.toArray, tm' t = lkT tm t) →
      Upon P (fun u w' => ∃ E', E'.w = w' ∧ GamS P B (fun n => if n < nx then lkB st1 n else σ n) fr E' ∧ Ext E E' ∧ E'.dp = E.dp) ((execOp a.eval ow).run P E.w) := by
  unfold earlyK at h
  split at h <;> try exact h.elim
  rename_i o hol
  split at h <;> try exact h.elim
  rename_i t x y hop
  split at h <;> try exact h.elim
  rename_i i m off hi hx
  split at h <;> try exact h.elim
  rename_i t' cs vs hn hy
  obtain ⟨rfl, hsz, hoff, hK⟩ := h
  have hlt : m < nx := by
    rcases Nat.lt_or_ge m nx with h | h
    · exact h
    · rw [hst m h] at hn; cases hn
  refine ⟨_, hK, fun k hk => ?_, fun k hk => by rw [lkB_setB, if_neg hk], fun ow how tm' σ fr E a hS hGT hσ hag => ?_⟩
  · rw [lkB_setB, if_neg (by omega)]; exact hst k hk
  · rw [hol] at how
    cases how
    have hok := List.all_eq_true.1 hN o (List.mem_of_getElem? hol)
    have hm := opOk_mem hok
    have hxo : x ∈ o.op.operands := by simp [hop, Op.operands]
    have hyo : y ∈ o.op.operands := by simp [hop, Op.operands]
    have rx := ev_ok hGT x (hm x hxo)
    have ry := ev_ok hGT y (hm y hyo)
    rw [ev_congr (ops := l.toArray) hag hxo, hx] at rx
    rw [ev_congr (ops := l.toArray) hag hyo] at ry
    simp only [RV] at rx
    obtain ⟨b, hb1, hb2⟩ := rx
    obtain ⟨us, g1, g2, g3⟩ := vcells_ok hy ry
    have hσm : σ m = some (.cells t' cs) := by rw [hσ m hlt, hn]
    obtain ⟨b', cur, k1, k2, k3, k4, k5⟩ := hS.st m _ hσm
    rw [hb1] at k1
    cases k1
    have hl1 := g2.len
    have hl2 := k3.len
    obtain ⟨f1, f2, f3, f4, f5⟩ := setCells_facts b us off E.w
    have hrun := st_run (P := P) (w := E.w) (b := b) (o := off) (ty_ok hT hi) g1 g3 (by omega) (there_of k2 (by omega))
    have hW := GamS.write (x := .cells t' cs) (x' := .cells t' (splice cs off vs)) (σ' := fun k => if k < nx then lkB (setB m (.cells t' (splice cs off vs)) st) k else σ k) (w' := E.w.setCells b off us) hS hσm (fun k => by
      by_cases hk : k < nx
      · simp only [if_pos hk, lkB_setB]
        by_cases hkm : k = m
        · rw [if_pos hkm, if_pos hkm]
        · rw [if_neg hkm, if_neg hkm, hσ k hk]
      · simp only [if_neg hk]
        rw [if_neg (by omega)]) hb1 rfl (fun o' ho' => (k5.2.2.2 o' ho').elim) f1 f2 f3 f4 f5 (fun E' hE' hext hok => by
      subst hE'
      refine ⟨b, spliceU cur off us, hb1, setCells_splice k2 (by omega), RVL.splice (RVL.mono hext _ _ k3) (RVL.mono hext _ _ g2), fun u hu => ?_, hok⟩
      unfold spliceU at hu
      rcases List.mem_append.1 hu with hu | hu
      · rcases List.mem_append.1 hu with hu | hu
        · exact k4 u (List.mem_of_mem_take hu)
        · exact g3 u hu
      · exact k4 u (List.mem_of_mem_drop hu))
    have hr : (execOp a.eval o).run P E.w = .ok .skip (E.w.setCells b off us) := by simp [execOp, hop, hb2, hrun]
    rw [hr]
    exact ⟨_, rfl, hW.1, hW.2, rfl⟩
/-- a token; what comes behind the heads, kept from simp till they have run -/
structure TokH (K : List (Nat × V) → List (Nat × Blk) → Prop) : Type where
def fin2 (K : List (Nat × V) → List (Nat × Blk) → Prop) (_ : TokH K) (tm : List (Nat × V)) (nb : List (Nat × Blk)) : Prop := K tm nb
theorem fin2_intro {K : List (Nat × V) → List (Nat × Blk) → Prop} {tm : List (Nat × V)} {nb : List (Nat × Blk)} (h : K tm nb) : fin2 K ⟨⟩ tm nb := h
def tailX (iw : Nat) : Nat → List Oper → List Oper
  | _, [] => []
  | k, o :: l => match isT o.op, k == iw with
    | true, false => o :: tailX iw (k + 1) l
    | _, _ => tailX iw (k + 1) l
theorem tailX_eq (iw : Nat) : ∀ (l pre : List Oper), (pickOps (pre ++ l) ((tailIdx pre.length l).filter (fun i => i != iw))).map (·.2) = tailX iw pre.length l
  | [], pre => rfl
  | o :: l, pre => by
    have ih := tailX_eq iw l (pre ++ [o])
    simp only [List.append_assoc, List.cons_append, List.nil_append, List.length_append, List.length_cons, List.length_nil, Nat.zero_add] at ih
    have hg : (pre ++ o :: l)[pre.length]? = some o := by simp
    cases ht : isT o.op <;> simp only [tailIdx, tailX, ht]
    · exact ih
    · cases hk : (pre.length == iw)
      · rw [List.filter_cons_of_pos (by simpa using hk)]
        simp only [pickOps, hg, List.map_cons]
        rw [ih]
      · rw [List.filter_cons_of_neg (by simpa using hk)]
        exact ih
/-- .. heads that read other cells of this variable: they go the same way ahead of the write and behind it -/
theorem aw_drawnT (iw n : Nat) {id : Nat} {ops : Array Oper} {s : St} {Q : AQ} (hT : TabOk P T) (hm : P.follows .mixedOrders = true) (hl : (ops.toList.all (opOk B.N)) = true) (hok : drawOkS ops.toList (iw :: headIdx 0 ops.toList) ((tailIdx 0 ops.toList).filter (fun i => i != iw)) iw = true)
    (hh : (iw :: headIdx 0 ops.toList).filter (fun i => i != iw) = headIdx 0 ops.toList)
    (h : hwp P T ops s.st s.nx (headOps 0 ops.toList) s.tm [] (fin2 (fun tm nb => earlyK T ops.toList[iw]? n tm s.st (fun st1 => hwp P T ops st1 s.nx (headOps 0 ops.toList) s.tm [] (fin2 (fun tm' nb' => (tm', nb') = (tm, nb) ∧ rwp P B T ops (tailX iw 0 ops.toList) ⟨tm, nb ++ st1, s.nx + ops.toList.length⟩ (Q .normal)) ⟨⟩))) ⟨⟩)) : AW P B (.region id ops true) Q ⟨⟩ s := fun E a hG => by
  obtain ⟨l, rfl⟩ : ∃ l : List Oper, ops = l.toArray := ⟨ops.toList, by simp⟩
  simp only [List.toList_toArray] at hl hok hh h
  have hops0 : ∀ o ∈ l.toArray.toList, opOk B.N o = true := fun o ho => List.all_eq_true.1 hl o (by simpa using ho)
  have e1 := headOps_eq l []
  have e2 := tailX_eq iw l []
  simp only [List.nil_append, List.length_nil] at e1 e2
  have hc : ((headOps 0 l).all fun p => p.2.op.operands.toList.all (constOk B.N)) = true := List.all_eq_true.2 fun p hp => by
    rw [← e1] at hp
    have := List.all_eq_true.1 hl p.2 (List.mem_of_getElem? (pickOps_mem.1 hp).2)
    simp only [opOk, Bool.and_eq_true] at this
    exact this.1
  obtain ⟨tmF, nbF, hK, hrun⟩ := hwp_ok (B := B) hT hops0 _ _ _ hc h
  have hG' := gam_drew hG
  have hst0 : ∀ n, s.nx ≤ n → lkB s.st n = none := fun n hn => hG.1.none_of_fresh hn
  unfold fin2 at hK
  obtain ⟨st1, hK2, hst1, hoth, hwr⟩ := early_ok (B := B) hT hl hst0 hK
  obtain ⟨tmF1, nbF1, hK3, hrun1⟩ := hwp_ok (B := B) hT hops0 _ _ _ hc hK2
  obtain ⟨heq, hK1⟩ := hK3
  cases heq
  refine wpIn_region_any hm ?_
  have htail : ((pickOps l ((tailIdx 0 l).filter (fun i => i != iw))).map (·.2)).all (opOk B.N) = true := List.all_eq_true.2 fun o ho => by
    obtain ⟨p, hp, rfl⟩ := List.mem_map.1 ho
    exact List.all_eq_true.1 hl p.2 (List.mem_of_getElem? (pickOps_mem.1 hp).2)
  rw [← e1, ← hh] at hrun hrun1
  have := wpAny_headsS (Q := AQQ P B Q) hok hrun hrun1 hl hst0 hst1 (fun _ _ hb => hb) (fun _ _ hb => hb) hwr (fun E a hG => rwp_list hT hops0 _ _ _ htail (by rw [e2]; exact hK1) (fun s' hs E a hG => ⟨E, s', rfl, hG, hs⟩) E a hG) (iw :: headIdx 0 l).length (Array.replicate l.toArray.size false) ⟨E.η, E.F, { E.w with drawn := E.w.drawn + 1 }, E.dp⟩ a
    ⟨by simp, fun j oj _ hl => (by rw [getD_replicate_false] at hl; cases hl)⟩ (fun t _ => getD_replicate_false _ _) (by
      rw [List.countP_eq_length]; intro i _; rw [getD_replicate_false]; rfl)
    (hG'.1.congr (fun n => by
      rw [getD_replicate_false, getD_replicate_false]
      by_cases hn : s.nx ≤ n
      · rw [if_pos hn, if_neg (by simp), hst0 n hn]
      · rw [if_neg hn, if_neg (by simp)]) (fun n hn => hn.1))
    ⟨fun t => by
      have : ((pickOps l ((iw :: headIdx 0 l).filter (fun i => i != iw))).any fun p => p.2.dst == some t && (Array.replicate l.toArray.size false).getD p.1 false) = false := by
        rw [List.any_eq_false]; intro p _; rw [getD_replicate_false]; simp
      rw [this, if_neg (by simp)]
      exact hG'.2.tm t, hG'.2.defers, hG'.2.size⟩
  have hlen : (iw :: headIdx 0 l).length + ((tailIdx 0 l).filter (fun i => i != iw)).length = l.length := by
    simp only [drawOkS, Bool.and_eq_true, decide_eq_true_eq] at hok
    exact hok.1.1.2
  rw [hlen] at this
  simpa using this
end
end Go.Proofs.Ytncihbmehbiekaa


namespace Go.Proofs.Ytncihbmehbiekaa
set_option linter.unusedVariables false
set_option linter.unusedSimpArgs false
open Go.RowKit
theorem ltd {k n : Nat} (h : k < n) : decide ((k : Int) < (n : Int)) = true := decide_eq_true (by omega)
theorem ged {k n : Nat} (h : n ≤ k) : decide ((k : Int) < (n : Int)) = false := decide_eq_false (by omega)
theorem subD_refl (d : D) : subD d d := by
  cases d with
  | sl sz d0 es => exact ⟨rfl, rfl⟩
  | c v =>
    unfold subD
    split <;> simp_all
  | _ => rfl
theorem subVs_d (ρ : Ren) : ∀ ds : List D, subVs ρ (dV ds) (dV ds)
  | [] => by simp [dV, subVs]
  | d :: ds => by
    show subV ρ (.d d) (.d d) ∧ subVs ρ (dV ds) (dV ds)
    exact ⟨subD_refl d, subVs_d ρ ds⟩
/-- data that say at least as much -/
def SubD (d e : D) : Prop := ∀ F w v, RD F w d v → RD F w e v
def SubDL : List D → List D → Prop
  | [], [] => True
  | d :: ds, e :: es => SubD d e ∧ SubDL ds es
  | _, _ => False
def SubEs : List (List D) → List (List D) → Prop
  | [], [] => True
  | d :: ds, e :: es => SubDL d e ∧ SubEs ds es
  | _, _ => False
theorem SubD.refl (d : D) : SubD d d := fun _ _ _ h => h
theorem SubD.of (d e : D) (h : subD d e) : SubD d e := fun _ _ _ hv => subD_ok h hv
theorem SubDL.refl : ∀ ds : List D, SubDL ds ds
  | [] => trivial
  | d :: ds => ⟨SubD.refl d, SubDL.refl ds⟩
theorem SubDL.ok {F : Ft} {w : World} : ∀ {ds es : List D} {us : List Value}, SubDL ds es → RDL F w ds us → RDL F w es us
  | [], [], us, _, h => h
  | d :: ds, e :: es, us, hs, h => by
    simp only [RDL] at h ⊢
    obtain ⟨u, r, h1, h2, h3⟩ := h
    exact ⟨u, r, h1, hs.1 F w u h2, SubDL.ok hs.2 h3⟩
  | [], _ :: _, us, hs, _ => hs.elim
  | _ :: _, [], us, hs, _ => hs.elim
theorem SubEs.ok {F : Ft} {w : World} {sz : Nat} {a : Option Addr} : ∀ {es fs : List (List D)} {k : Nat}, SubEs es fs → RR F w sz a es k → RR F w sz a fs k
  | [], [], k, _, h => h
  | d :: ds, e :: es, k, hs, h => by
    simp only [RR] at h ⊢
    obtain ⟨⟨b, o, us, h1, h2, h3⟩, h4⟩ := h
    exact ⟨⟨b, o, us, h1, hs.1.ok h2, h3⟩, SubEs.ok hs.2 h4⟩
  | [], _ :: _, k, hs, _ => hs.elim
  | _ :: _, [], k, hs, _ => hs.elim
theorem SubEs.len : ∀ {es fs : List (List D)}, SubEs es fs → es.length = fs.length
  | [], [], _ => rfl
  | d :: ds, e :: es, hs => by simp [SubEs.len hs.2]
  | [], _ :: _, hs => hs.elim
  | _ :: _, [], hs => hs.elim
theorem SubEs.map {α : Type} (f g : α → List D) : ∀ l : List α, (∀ x ∈ l, SubDL (f x) (g x)) → SubEs (l.map f) (l.map g)
  | [], _ => trivial
  | x :: l, h => ⟨h x (by simp), SubEs.map f g l fun y hy => h y (by simp [hy])⟩
theorem SubD.sl {sz : Nat} {d0 d1 : List D} {es fs : List (List D)} (h : SubEs es fs) : SubD (.sl sz d0 es) (.sl sz d1 fs) := fun F w v hv => by
  simp only [RD] at hv ⊢
  obtain ⟨a, cap, h1, h2, h3, h4⟩ := hv
  rw [h.len] at h1 h2 h3
  exact ⟨a, cap, h1, h2, h3, h.ok h4⟩
theorem Sub.aggL {ds es : List D} (h : SubDL ds es) : Sub (.agg ds) (.agg es) := fun F w v ⟨us, h1, h2, h3⟩ => ⟨us, h1, h.ok h2, h3⟩
theorem subVs_dm (ρ : Ren) (ds : List D) : subVs ρ (ds.map .d) (ds.map .d) := subVs_d ρ ds
section
variable {P : Program} {B : Base} {T : Tab}
/-- a function from a list's elements to truth values -/
def FnM {α : Type} (enc : α → A) (p : α → Bool) (l : List α) : List A → Ret → Prop := fun asA r => ∃ x, x ∈ l ∧ asA = [enc x] ∧ r = .r1 (aB (p x))
theorem slotX_M {α : Type} {enc : α → A} {p : α → Bool} {l : List α} (x : α) (hx : x ∈ l) {vs : List V} {d : Option Tmp} {s : St} {K : St → Prop} (has : toAs vs = some [enc x]) (hd : (match d with | some t => decide (t < B.N) | none => true) = true) (hK : K ⟨put d (vB (p x)) s.tm, s.st, s.nx⟩) : slotX P B (FnR P (FnM enc p l)) vs d s K ⟨⟩ :=
  slotX_intro ⟨x, hx, rfl, rfl⟩ has hd hK
/-- a call with own blocks seen as data -/
theorem callI_fz {f : FuncId} {vs : List V} {xs : List A} {r : Ret} {d : Option Tmp} {s : St} {K : St → Prop} (hS : Spec P f xs r) (hp : plR r = true) (ha : FzA P (lkB s.st) vs xs)
    (hname : (P.funcs[f]?).any (fun fn => fn.name != "runtime.NumGoroutine" && fn.body.isSome) = true) (hd : (match d with | some t => decide (t < B.N) | none => true) = true) (hK : K ⟨put d (ofRet r) s.tm, s.st, s.nx⟩) : callI P B f vs d s K ⟨⟩ := by
  have hd : ∀ t, d = some t → t < B.N := fun t e => by rw [e] at hd; simpa using hd
  refine ⟨hname, fun E a us hG hv => (hS _ E.w us (fz_lt hG.1.st hG.1.lt) (fza_ok hG.1.st ha hv)).mono ?_⟩
  rintro e w' ⟨v, F', rfl, hb, hF, hr⟩
  let E' : Env := ⟨E.η, E.F, w', E.dp⟩
  have hs : HStep E E' s.nx := ⟨hb, fun _ _ => rfl, ⟨Ft.le_refl _, fun _ _ h => .inl h, fun _ h => .inl h⟩, rfl⟩
  have hext := hs.ext hG.1.lt (hG.1.fresh _ (Nat.le_refl _))
  have hσn : lkB s.st s.nx = none := hG.1.none_of_fresh (Nat.le_refl _)
  exact ⟨v, E', ⟨put d (ofRet r) s.tm, s.st, s.nx⟩, rfl, rfl, ⟨hG.1.head (σ' := lkB s.st) (x := none) hs rfl (Nat.le_refl _) (fun n => by split <;> simp_all) hσn (fun n hn' => ⟨hn', fun h => by cases h⟩), (hG.2.ext hext rfl).put (ofRet_ok (E := E') (plR_ok hp hr)) hd⟩, hK⟩
theorem callK_skip {st : Nat → Option Blk} {nm : Nat} {f : FuncId} {vs : List V} {K : HK} {asA : List A} (r : Ret) (ha : toAs vs = some asA) (hf : (P.funcs[f]?).any (fun fn => fn.name != "runtime.NumGoroutine" && fn.body.isSome) = true) (hK : K (ofRet r) none) : callK P False st nm f vs K ⟨⟩ := .inl ⟨asA, r, ha, False.elim, hf, hK⟩
theorem FzL_dV {st : Nat → Option Blk} : ∀ ds : List D, FzL P st (dV ds) ds
  | [] => FzL.nil
  | d :: ds => FzL.cons (.d rfl) (FzL_dV ds)
theorem FzLL_dV {st : Nat → Option Blk} : ∀ es : List (List D), FzLL P st (es.map dV) es
  | [] => FzLL.nil
  | e :: es => FzLL.cons (FzL_dV e) (FzLL_dV es)
/-- a region that draws its order, its head and tail given -/
theorem aw_drawnX {id : Nat} {ops : Array Oper} {s : St} {Q : AQ} (hd tail : List Nat) (hT : TabOk P T) (hm : P.follows .mixedOrders = true) (hl : (ops.toList.all (opOk B.N)) = true) (hok : drawOk ops.toList hd tail = true)
    (h : hwp P T ops s.st s.nx (pickOps ops.toList hd) s.tm [] (fun tm nb => rwp P B T ops ((pickOps ops.toList tail).map (·.2)) ⟨tm, nb ++ s.st, s.nx + ops.toList.length⟩ (Q .normal))) : AW P B (.region id ops true) Q ⟨⟩ s :=
  aw_regionD (l := ops.toList) hd tail hT hm rfl hl hok h
/-- the head: what stands ahead of the first operation that writes -/
def allF : Nat → List Oper → List Nat
  | _, [] => []
  | k, _ :: l => k :: allF (k + 1) l
def headF : Nat → List Oper → List Nat
  | _, [] => []
  | k, o :: l => match isT o.op with
    | true => []
    | false => k :: headF (k + 1) l
def restF : Nat → List Oper → List Nat
  | _, [] => []
  | k, o :: l => match isT o.op with
    | true => k :: allF (k + 1) l
    | false => restF (k + 1) l
theorem aw_drawnF {id : Nat} {ops : Array Oper} {s : St} {Q : AQ} (hT : TabOk P T) (hm : P.follows .mixedOrders = true) (hl : (ops.toList.all (opOk B.N)) = true) (hok : drawOk ops.toList (headF 0 ops.toList) (restF 0 ops.toList) = true)
    (h : hwp P T ops s.st s.nx (pickOps ops.toList (headF 0 ops.toList)) s.tm [] (fun tm nb => rwp P B T ops ((pickOps ops.toList (restF 0 ops.toList)).map (·.2)) ⟨tm, nb ++ s.st, s.nx + ops.toList.length⟩ (Q .normal))) : AW P B (.region id ops true) Q ⟨⟩ s :=
  aw_drawnX _ _ hT hm hl hok h
end
end Go.Proofs.Ytncihbmehbiekaa


namespace Go.Proofs.Ytncihbmehbiekaa
def T : Tab := [
  (1, ⟨.oth, 1, .nilFunc, 8⟩),
  (2, ⟨.int .i64, 1, .int .i64 0, 8⟩),
  (3, ⟨.int .i64, 1, .int .i64 0, 8⟩),
  (4, ⟨.bool, 1, .bool false, 1⟩),
  (5, ⟨.int .u8, 1, .int .u8 0, 1⟩),
  (9, ⟨.str, 1, .string ⟨#[]⟩, 16⟩),
  (12, ⟨.int .u64, 1, .int .u64 0, 8⟩),
  (13, ⟨.struct [(0, 1), (1, 1)], 2, .agg #[.string ⟨#[]⟩, .int .u64 0], 24⟩),
  (21, ⟨.int .i32, 1, .int .i32 0, 4⟩),
  (22, ⟨.slice 40, 1, .slice none 0 0, 24⟩),
  (23, ⟨.struct [(0, 1), (1, 1)], 2, .agg #[.int .i64 0, .slice none 0 0], 32⟩),
  (24, ⟨.struct [(0, 1), (1, 1)], 2, .agg #[.int .i64 0, .slice none 0 0], 32⟩),
  (25, ⟨.oth, 1, .nilFunc, 8⟩),
  (26, ⟨.oth, 1, .nilFunc, 8⟩),
  (27, ⟨.slice 3, 1, .slice none 0 0, 24⟩),
  (28, ⟨.int .i64, 1, .int .i64 0, 8⟩),
  (30, ⟨.oth, 1, .nilFunc, 8⟩),
  (31, ⟨.slice 27, 1, .slice none 0 0, 24⟩),
  (33, ⟨.oth, 1, .nilFunc, 8⟩),
  (34, ⟨.oth, 1, .nilFunc, 8⟩),
  (35, ⟨.oth, 1, .nilFunc, 8⟩),
  (36, ⟨.oth, 1, .nilFunc, 8⟩),
  (37, ⟨.oth, 1, .nilFunc, 8⟩),
  (38, ⟨.oth, 1, .nilFunc, 8⟩),
  (39, ⟨.struct [(0, 1), (1, 1), (2, 1)], 3, .agg #[.slice none 0 0, .bool false, .slice none 0 0], 56⟩),
  (40, ⟨.struct [(0, 1), (1, 1), (2, 1)], 3, .agg #[.slice none 0 0, .bool false, .slice none 0 0], 56⟩),
  (41, ⟨.oth, 1, .nilFunc, 8⟩),
  (42, ⟨.slice 5, 1, .slice none 0 0, 24⟩),
  (43, ⟨.oth, 1, .nilFunc, 8⟩),
  (44, ⟨.oth, 1, .nilFunc, 8⟩),
  (46, ⟨.oth, 1, .nilFunc, 8⟩),
  (47, ⟨.oth, 1, .nilFunc, 8⟩),
  (48, ⟨.oth, 1, .nilFunc, 8⟩),
  (49, ⟨.oth, 1, .nilFunc, 8⟩),
  (50, ⟨.oth, 1, .nilFunc, 8⟩),
  (52, ⟨.oth, 1, .nilFunc, 8⟩),
  (53, ⟨.oth, 1, .nilFunc, 8⟩),
  (54, ⟨.oth, 1, .nilFunc, 8⟩),
  (55, ⟨.oth, 1, .nilFunc, 8⟩),
  (56, ⟨.oth, 1, .nilFunc, 8⟩),
  (57, ⟨.oth, 1, .nilFunc, 8⟩),
  (58, ⟨.oth, 1, .nilFunc, 8⟩),
  (59, ⟨.oth, 1, .nilFunc, 8⟩),
  (60, ⟨.map 3 27, 1, .map none, 8⟩),
  (61, ⟨.oth, 1, .nilFunc, 8⟩),
  (62, ⟨.oth, 1, .nilFunc, 8⟩),
  (63, ⟨.oth, 1, .nilFunc, 8⟩),
  (64, ⟨.map 3 3, 1, .map none, 8⟩),
  (65, ⟨.oth, 1, .nilFunc, 8⟩),
  (66, ⟨.oth, 1, .nilFunc, 8⟩),
  (67, ⟨.map 3 4, 1, .map none, 8⟩),
  (68, ⟨.oth, 1, .nilFunc, 8⟩),
  (69, ⟨.oth, 1, .nilFunc, 8⟩),
  (70, ⟨.oth, 1, .nilFunc, 8⟩),
  (71, ⟨.oth, 1, .nilFunc, 8⟩),
  (72, ⟨.slice 86, 1, .slice none 0 0, 24⟩),
  (73, ⟨.slice 86, 1, .slice none 0 0, 24⟩),
  (74, ⟨.oth, 1, .nilFunc, 8⟩),
  (75, ⟨.oth, 1, .nilFunc, 8⟩),
  (76, ⟨.oth, 1, .nilFunc, 8⟩),
  (77, ⟨.oth, 1, .nilFunc, 8⟩),
  (78, ⟨.oth, 1, .nilFunc, 8⟩),
  (79, ⟨.oth, 1, .nilFunc, 8⟩),
  (80, ⟨.oth, 1, .nilFunc, 8⟩),
  (81, ⟨.oth, 1, .nilFunc, 8⟩),
  (82, ⟨.oth, 1, .nilFunc, 8⟩),
  (83, ⟨.oth, 1, .nilFunc, 8⟩),
  (84, ⟨.oth, 1, .nilFunc, 8⟩),
  (85, ⟨.oth, 1, .nilFunc, 8⟩),
  (86, ⟨.int .u64, 1, .int .u64 0, 8⟩),
  (87, ⟨.oth, 1, .nilFunc, 8⟩),
  (88, ⟨.oth, 1, .nilFunc, 8⟩),
  (94, ⟨.oth, 1, .nilFunc, 8⟩),
  (95, ⟨.int .u32, 1, .int .u32 0, 4⟩),
  (98, ⟨.oth, 1, .nilFunc, 8⟩),
  (99, ⟨.oth, 1, .pointer none, 8⟩)]
theorem T_ok : TabOk Try.prog T := by
  refine ⟨?_, ?_, ?_, ?_, ?_, ?_, ?_, ?_, ?_, ?_, ?_, ?_, ?_, ?_, ?_, ?_, ?_, ?_, ?_, ?_, ?_, ?_, ?_, ?_, ?_, ?_, ?_, ?_, ?_, ?_, ?_, ?_, ?_, ?_, ?_, ?_, ?_, ?_, ?_, ?_, ?_, ?_, ?_, ?_, ?_, ?_, ?_, ?_, ?_, ?_, ?_, ?_, ?_, ?_, ?_, ?_, ?_, ?_, ?_, ?_, ?_, ?_, ?_, ?_, ?_, ?_, ?_, ?_, ?_, ?_, ?_, ?_, ?_, ?_, ?_, ?_, trivial⟩ <;> exact ⟨by kernel_rfl, by simp only [kdOk]; kernel_rfl⟩
theorem ty_3 : ty T 3 = some ⟨.int .i64, 1, .int .i64 0, 8⟩ := by kernel_rfl
theorem ty_4 : ty T 4 = some ⟨.bool, 1, .bool false, 1⟩ := by kernel_rfl
theorem ty_5 : ty T 5 = some ⟨.int .u8, 1, .int .u8 0, 1⟩ := by kernel_rfl
theorem ty_22 : ty T 22 = some ⟨.slice 40, 1, .slice none 0 0, 24⟩ := by kernel_rfl
theorem ty_24 : ty T 24 = some ⟨.struct [(0, 1), (1, 1)], 2, .agg #[.int .i64 0, .slice none 0 0], 32⟩ := by kernel_rfl
theorem ty_27 : ty T 27 = some ⟨.slice 3, 1, .slice none 0 0, 24⟩ := by kernel_rfl
theorem ty_31 : ty T 31 = some ⟨.slice 27, 1, .slice none 0 0, 24⟩ := by kernel_rfl
theorem ty_40 : ty T 40 = some ⟨.struct [(0, 1), (1, 1), (2, 1)], 3, .agg #[.slice none 0 0, .bool false, .slice none 0 0], 56⟩ := by kernel_rfl
theorem ty_42 : ty T 42 = some ⟨.slice 5, 1, .slice none 0 0, 24⟩ := by kernel_rfl
theorem ty_50 : ty T 50 = some ⟨.oth, 1, .nilFunc, 8⟩ := by kernel_rfl
theorem ty_60 : ty T 60 = some ⟨.map 3 27, 1, .map none, 8⟩ := by kernel_rfl
theorem ty_64 : ty T 64 = some ⟨.map 3 3, 1, .map none, 8⟩ := by kernel_rfl
theorem ty_65 : ty T 65 = some ⟨.oth, 1, .nilFunc, 8⟩ := by kernel_rfl
theorem ty_67 : ty T 67 = some ⟨.map 3 4, 1, .map none, 8⟩ := by kernel_rfl
theorem ty_68 : ty T 68 = some ⟨.oth, 1, .nilFunc, 8⟩ := by kernel_rfl
theorem ty_73 : ty T 73 = some ⟨.slice 86, 1, .slice none 0 0, 24⟩ := by kernel_rfl
theorem ty_86 : ty T 86 = some ⟨.int .u64, 1, .int .u64 0, 8⟩ := by kernel_rfl
end Go.Proofs.Ytncihbmehbiekaa


namespace Go.Proofs.Ytncihbmehbiekaa
set_option linter.unusedSimpArgs false
set_option linter.unusedVariables false
open Go.RowKit
def intD (x : Int) : List D := [.c (.int .i64 x)]
theorem intD_len (x : Int) : (dV (intD x)).length = 1 := rfl
theorem intD_take (x : Int) : (dV (intD x)).take 1 = dV (intD x) := rfl
theorem intD_ln (x : Int) : (intD x).length = 1 := rfl
theorem intD_hd (x : Int) : (dV (intD x)).head? = some (.d (.c (.int .i64 x))) := rfl
theorem intD_ic (x : Int) : icells (dV (intD x)) = some [x] := rfl
set_option linter.defProp false in
def intD_B := And.intro @intD_len (And.intro @intD_take (And.intro @intD_hd (And.intro @intD_ln @intD_ic)))
def boolV (b : Bool) : V := .d (.c (.bool b))
theorem upM_bool (c : List Int) (y : Bool) (m : AM Bool) : upM c (.d (.c (.bool y))) (mpV boolV m) = mpV boolV (upA c y m) := upM_mpV boolV c y m
theorem lkM_bool (c : List Int) (m : AM Bool) : lkM c (mpV boolV m) = (lkA c m).map boolV := lkM_mpV boolV c m
theorem subV_bool (ρ : Ren) (b : Bool) : subV ρ (boolV b) (boolV b) := rfl
theorem snocI (l : List Int) (p : Int) : l.map intD ++ [[.c (.int .i64 p)]] = (l ++ [p]).map intD := by simp [intD]
abbrev aIs (l : List Int) : A := .one (.sl 1 (intD 0) (l.map intD))
abbrev vIs (l : List Int) : V := .d (.sl 1 (intD 0) (l.map intD))
theorem keyOk_int_ : KeyOk Try.prog 3 .i := keyOk_int Try.underlying3
theorem list_snoc {α : Type} {motive : List α → Prop} (h0 : motive []) (h1 : ∀ p y, motive p → motive (p ++ [y])) (l : List α) : motive l := by
  have : ∀ q p : List α, motive p → motive (p ++ q) := by
    intro q
    induction q with
    | nil => intro p hp; simpa using hp
    | cons y q ih => intro p hp; have := ih (p ++ [y]) (h1 p y hp); simpa using this
  simpa using this l [] h0
/-- people met, as the map's entries -/
def metM (l : List Int) : AM Bool := l.foldl (fun m a => upA [a] true m) []
theorem metM_succ (l : List Int) (a : Int) : metM (l ++ [a]) = upA [a] true (metM l) := by simp [metM, List.foldl_append]
theorem lkA_metM (l : List Int) (a : Int) : lkA [a] (metM l) = if a ∈ l then some true else none := by
  refine list_snoc (motive := fun l => lkA [a] (metM l) = if a ∈ l then some true else none) rfl (fun l y ih => ?_) l
  rw [metM_succ, lkA_upA, ih]
  by_cases h : a = y
  · subst h; rw [if_pos rfl, if_pos (by simp)]
  · rw [if_neg (by simpa using h)]
    simp [h]
end Go.Proofs.Ytncihbmehbiekaa


namespace Go.Proofs.Ytncihbmehbiekaa
set_option linter.unusedSimpArgs false
set_option linter.unusedVariables false
open Go.RowKit
set_option maxRecDepth 100000
set_option maxHeartbeats 4000000
theorem has_spec (l : List Int) (p : Int) (hl : l.length ≤ 140737488351232) : Spec Try.prog 22 [aIs l, aI p] (.r1 (aB (decide (p ∈ l)))) := by
  refine spec_of T_ok Try.func22 (by dsimp only [Try.f22]) rfl rfl (by simp) fun w F => ?_
  repeat' (first
    | (with_reducible refine aw_seq ?_)
    | ((with_reducible refine twoG_intro ?_ ?_) <;> intro hTw <;> first | (exact Bool.noConfusion hTw) | ((try simp only [hTw, Bool.not_true, Bool.not_false, Bool.true_and, Bool.false_and, Bool.and_true, Bool.and_false, Bool.true_or, Bool.false_or, Bool.or_true, Bool.or_false]); (first | (guard_hyp hTw : true = true; clear hTw) | (guard_hyp hTw : false = false; clear hTw) | (revert hTw; intro _))))
    | ((with_reducible refine two_intro ?_ ?_) <;> intro hTw <;> first | (exact Bool.noConfusion hTw) | ((first | (guard_hyp hTw : true = true; clear hTw) | (guard_hyp hTw : false = false; clear hTw) | (revert hTw; intro _))))
    | ((with_reducible refine And.intro ?_ ?_); (focus (first | omega | rfl | decide | grind)))
    | (with_reducible refine aw_block ?_)
    | (with_reducible refine aw_scope ?_)
    | ((first
        | ((with_reducible refine aw_regionA T_ok ?_ ?_); (focus kernel_rfl))
        | ((with_reducible refine aw_drawnA T_ok ?_ ?_ ?_ ?_); (focus kernel_rfl); (focus kernel_rfl); (focus (decide +kernel)))
        | ((with_reducible refine aw_drawnF T_ok ?_ ?_ ?_ ?_); (focus kernel_rfl); (focus kernel_rfl); (focus (decide +kernel)))
        | (with_reducible refine aw_label ?_)
        | ((with_reducible refine aw_rfM ?_ ?_); (focus kernel_rfl))
        | (with_reducible refine aw_skip ?_)
        | (with_reducible refine aw_exit ?_)
        | ((with_reducible refine aw_condM ?_ ?_); (focus kernel_rfl))
        | (with_reducible refine aw_ret ?_)
      ); simp only [↓rwp.eq_def, ↓sop.eq_def, ↓slotK.eq_def, inV, shT, unT, inQ, rfQ, rfEnd, resOf, pickT, setP, ydA, ydQ, rowW, vD, fillV,  ↓gop.eq_def, ↓hop.eq_def, ↓hopH.eq_def, ↓hwp.eq_def, ↓ldV.eq_def, ↓ldK.eq_def, ↓ixK.eq_def, ↓addOff.eq_def, ↓exK.eq_def, ↓notK.eq_def, ↓pickK.eq_def, ↓iop2.eq_def, ↓binK.eq_def, ↓eqop.eq_def, icells, ↓iop.eq_def, ↓cutK.eq_def, ↓lenK.eq_def, ↓lenM.eq_def, tyInt, ↓lookK.eq_def, ↓mpK.eq_def, keyV, allI, fitK, lkM, upM, dlM, kq, ↓cvK.eq_def, ↓mmK.eq_def, ↓biK.eq_def, ↓stK.eq_def, ↓apK.eq_def, ↓apD.eq_def, ↓apM.eq_def, isMo, ↓apS.eq_def, nxt, put, setT, setB, delB, lkT_n, lkT_c, lkB_n, lkB_c, ev, ofC, inT, ofA, ofRet, dV_n, dV_c, getD_enc, toDs_dV, List.head?_cons, List.length_map, Option.toArray_some, Option.toArray_none, Int.toNat_natCast, slOf, TyK.agg, vcells, splice, pickOps, headF, restF, allF, zOf, strip, stripP, gOf, allP, rowV, toDs, toD, toA, toAs, headOps, tailOps, isT, addN, Op.operands, Call.operands, List.map_cons, List.map_nil, List.drop_zero, List.drop_succ_cons, List.take_succ_cons, List.take_zero, List.length_cons, List.length_nil, List.getElem?_cons_zero, List.getElem?_cons_succ, List.getElem?_toArray, Option.bind_some, Option.map_some, Option.map_none, List.append_nil, List.nil_append, List.cons_append, if_true, if_false, reduceIte, Nat.reduceEqDiff, Nat.reduceAdd, Nat.reduceSub, Int.reduceToNat, Nat.reduceLeDiff, Nat.reduceLT, and_false, and_self, Nat.zero_add, Nat.add_zero, reduceCtorEq, Option.getD_some, Option.getD_none, Option.isSome_some, Option.isSome_none, forall_const, true_and, and_true, true_implies, Bool.true_and, Bool.false_and, Bool.and_true, Bool.and_false, Bool.true_or, Bool.false_or, Bool.or_true, Bool.or_false, beq_self_eq_true, zipM, zcells, Value.cells, Value.oneCell', List.toList_toArray, Array.toList_append, Bool.not_not, List.cons.injEq, Int.reduceEq, eq_self, false_and, Bool.not_true, Bool.not_false, ne_eq, not_false_eq_true, imp_self, implies_true, av_bt, av_bf, av_and, av_or, av_nf, av_tt, av_n1, av_n2, av_t1, av_tp, retQ, retL, resV, RetV, RetOk, SubL, intD_len, intD_take, intD_hd, intD_ln, intD_ic, snocI, ty_3, ty_27, ty_4]; try simp (disch := omega) only [av_w, av_t1, av_tp, Int.toNat_natCast]))
  refine aw_loopI (fun k : Nat => ⟨[(0, .d (.sl 1 (intD 0) (l.map intD))), (1, vI p), (5, vI k)], [], 0⟩) (fun k => k ≤ l.length ∧ ∀ i, i < k → l.getD i default ≠ p) (fun k => l.length - k) 0 ⟨Nat.zero_le _, fun i hi => absurd hi (Nat.not_lt_zero i)⟩ (wk_of [] rfl rfl ?_ ?_) ?_
  · simp only [wkT, wkB, wkB1, subV, subVs, subD, subB, lkN_n, lkN_c, lkT_n, lkT_c, lkB_n, lkB_c, if_true, if_false, reduceIte, Nat.reduceEqDiff, true_and, and_true, and_self, inT, ofA]
    rfl
  · simp only [wkT, wkB, wkB1, subV, subVs, subD, subB, lkN_n, lkN_c, lkT_n, lkT_c, lkB_n, lkB_c, if_true, if_false, reduceIte, Nat.reduceEqDiff, true_and, and_true, and_self, inT, ofA]
  rintro k ⟨hk, h0⟩
  repeat' (first
    | (with_reducible refine aw_seq ?_)
    | ((with_reducible refine twoG_intro ?_ ?_) <;> intro hTw <;> first | (exact Bool.noConfusion hTw) | ((try simp only [hTw, Bool.not_true, Bool.not_false, Bool.true_and, Bool.false_and, Bool.and_true, Bool.and_false, Bool.true_or, Bool.false_or, Bool.or_true, Bool.or_false]); (first | (guard_hyp hTw : true = true; clear hTw) | (guard_hyp hTw : false = false; clear hTw) | (revert hTw; intro _))))
    | ((with_reducible refine two_intro ?_ ?_) <;> intro hTw <;> first | (exact Bool.noConfusion hTw) | ((first | (guard_hyp hTw : true = true; clear hTw) | (guard_hyp hTw : false = false; clear hTw) | (revert hTw; intro _))))
    | ((with_reducible refine And.intro ?_ ?_); (focus (first | omega | rfl | decide | grind)))
    | (with_reducible refine aw_block ?_)
    | (with_reducible refine aw_scope ?_)
    | ((first
        | ((with_reducible refine aw_regionA T_ok ?_ ?_); (focus kernel_rfl))
        | ((with_reducible refine aw_drawnA T_ok ?_ ?_ ?_ ?_); (focus kernel_rfl); (focus kernel_rfl); (focus (decide +kernel)))
        | ((with_reducible refine aw_drawnF T_ok ?_ ?_ ?_ ?_); (focus kernel_rfl); (focus kernel_rfl); (focus (decide +kernel)))
        | (with_reducible refine aw_label ?_)
        | ((with_reducible refine aw_rfM ?_ ?_); (focus kernel_rfl))
        | (with_reducible refine aw_skip ?_)
        | (with_reducible refine aw_exit ?_)
        | ((with_reducible refine aw_condM ?_ ?_); (focus kernel_rfl))
        | (with_reducible refine aw_ret ?_)
      ); simp only [↓rwp.eq_def, ↓sop.eq_def, ↓slotK.eq_def, inV, shT, unT, inQ, rfQ, rfEnd, resOf, pickT, setP, ydA, ydQ, rowW, vD, fillV,  ↓gop.eq_def, ↓hop.eq_def, ↓hopH.eq_def, ↓hwp.eq_def, ↓ldV.eq_def, ↓ldK.eq_def, ↓ixK.eq_def, ↓addOff.eq_def, ↓exK.eq_def, ↓notK.eq_def, ↓pickK.eq_def, ↓iop2.eq_def, ↓binK.eq_def, ↓eqop.eq_def, icells, ↓iop.eq_def, ↓cutK.eq_def, ↓lenK.eq_def, ↓lenM.eq_def, tyInt, ↓lookK.eq_def, ↓mpK.eq_def, keyV, allI, fitK, lkM, upM, dlM, kq, ↓cvK.eq_def, ↓mmK.eq_def, ↓biK.eq_def, ↓stK.eq_def, ↓apK.eq_def, ↓apD.eq_def, ↓apM.eq_def, isMo, ↓apS.eq_def, nxt, put, setT, setB, delB, lkT_n, lkT_c, lkB_n, lkB_c, ev, ofC, inT, ofA, ofRet, dV_n, dV_c, getD_enc, toDs_dV, List.head?_cons, List.length_map, Option.toArray_some, Option.toArray_none, Int.toNat_natCast, slOf, TyK.agg, vcells, splice, pickOps, headF, restF, allF, zOf, strip, stripP, gOf, allP, rowV, toDs, toD, toA, toAs, headOps, tailOps, isT, addN, Op.operands, Call.operands, List.map_cons, List.map_nil, List.drop_zero, List.drop_succ_cons, List.take_succ_cons, List.take_zero, List.length_cons, List.length_nil, List.getElem?_cons_zero, List.getElem?_cons_succ, List.getElem?_toArray, Option.bind_some, Option.map_some, Option.map_none, List.append_nil, List.nil_append, List.cons_append, if_true, if_false, reduceIte, Nat.reduceEqDiff, Nat.reduceAdd, Nat.reduceSub, Int.reduceToNat, Nat.reduceLeDiff, Nat.reduceLT, and_false, and_self, Nat.zero_add, Nat.add_zero, reduceCtorEq, Option.getD_some, Option.getD_none, Option.isSome_some, Option.isSome_none, forall_const, true_and, and_true, true_implies, Bool.true_and, Bool.false_and, Bool.and_true, Bool.and_false, Bool.true_or, Bool.false_or, Bool.or_true, Bool.or_false, beq_self_eq_true, zipM, zcells, Value.cells, Value.oneCell', List.toList_toArray, Array.toList_append, Bool.not_not, List.cons.injEq, Int.reduceEq, eq_self, false_and, Bool.not_true, Bool.not_false, ne_eq, not_false_eq_true, imp_self, implies_true, av_bt, av_bf, av_and, av_or, av_nf, av_tt, av_n1, av_n2, av_t1, av_tp, retQ, retL, resV, RetV, RetOk, SubL, intD_len, intD_take, intD_hd, intD_ln, intD_ic, snocI, ty_3, ty_27, ty_4]; try simp (disch := omega) only [av_w, av_t1, av_tp, Int.toNat_natCast]))
  · rename_i h1 h2
    have hlt : k < l.length := by simp at h1; omega
    have hm : p ∈ l := by
      have e : l.getD k 0 = l[k] := by simp [List.getD, hlt]
      rw [e] at h2
      have h3 : l[k] = p := by simpa using h2
      exact h3 ▸ List.getElem_mem hlt
    exact Sub.of_eq (congrArg aB (decide_eq_true hm).symm)
  · rename_i h1 h2
    have hlt : k < l.length := by simp at h1; omega
    refine ⟨k + 1, ⟨by omega, fun i hi => ?_⟩, by dsimp only; omega, wk_of [] rfl rfl ?_ ?_⟩
    · by_cases hik : i = k
      · rw [hik]; simpa using h2
      · exact h0 i (by omega)
    · simp only [wkT, wkB, wkB1, subV, subVs, subD, subB, lkN_n, lkN_c, lkT_n, lkT_c, lkB_n, lkB_c, if_true, if_false, reduceIte, Nat.reduceEqDiff, true_and, and_true, and_self, inT, ofA]
      rfl
    · simp only [wkT, wkB, wkB1, subV, subVs, subD, subB, lkN_n, lkN_c, lkT_n, lkT_c, lkB_n, lkB_c, if_true, if_false, reduceIte, Nat.reduceEqDiff, true_and, and_true, and_self, inT, ofA]
  · rename_i h1
    have hk2 : k = l.length := by simp at h1; omega
    subst hk2
    have hm : p ∉ l := fun hm => by
      obtain ⟨i, hi, e⟩ := List.getElem_of_mem hm
      have := h0 i hi
      simp [List.getD, hi, e] at this
    exact Sub.of_eq (congrArg aB (decide_eq_false hm).symm)
def samePre (a b : List Int) (k : Nat) : Prop := k ≤ a.length ∧ ∀ i, i < k → a.getD i default = b.getD i default
theorem sameInts_spec (a b : List Int) (hl : a.length ≤ 140737488351232) : Spec Try.prog 18 [aIs a, aIs b] (.r1 (aB (decide (a = b)))) := by
  refine spec_of T_ok Try.func18 (by dsimp only [Try.f18]) rfl rfl (by simp) fun w F => ?_
  repeat' (first
    | (with_reducible refine aw_seq ?_)
    | ((with_reducible refine twoG_intro ?_ ?_) <;> intro hTw <;> first | (exact Bool.noConfusion hTw) | ((try simp only [hTw, Bool.not_true, Bool.not_false, Bool.true_and, Bool.false_and, Bool.and_true, Bool.and_false, Bool.true_or, Bool.false_or, Bool.or_true, Bool.or_false]); (first | (guard_hyp hTw : true = true; clear hTw) | (guard_hyp hTw : false = false; clear hTw) | (revert hTw; intro _))))
    | ((with_reducible refine two_intro ?_ ?_) <;> intro hTw <;> first | (exact Bool.noConfusion hTw) | ((first | (guard_hyp hTw : true = true; clear hTw) | (guard_hyp hTw : false = false; clear hTw) | (revert hTw; intro _))))
    | ((with_reducible refine And.intro ?_ ?_); (focus (first | omega | rfl | decide | grind)))
    | (with_reducible refine aw_block ?_)
    | (with_reducible refine aw_scope ?_)
    | ((first
        | ((with_reducible refine aw_regionA T_ok ?_ ?_); (focus kernel_rfl))
        | ((with_reducible refine aw_drawnA T_ok ?_ ?_ ?_ ?_); (focus kernel_rfl); (focus kernel_rfl); (focus (decide +kernel)))
        | ((with_reducible refine aw_drawnF T_ok ?_ ?_ ?_ ?_); (focus kernel_rfl); (focus kernel_rfl); (focus (decide +kernel)))
        | (with_reducible refine aw_label ?_)
        | ((with_reducible refine aw_rfM ?_ ?_); (focus kernel_rfl))
        | (with_reducible refine aw_skip ?_)
        | (with_reducible refine aw_exit ?_)
        | ((with_reducible refine aw_condM ?_ ?_); (focus kernel_rfl))
        | (with_reducible refine aw_ret ?_)
      ); simp only [↓rwp.eq_def, ↓sop.eq_def, ↓slotK.eq_def, inV, shT, unT, inQ, rfQ, rfEnd, resOf, pickT, setP, ydA, ydQ, rowW, vD, fillV,  ↓gop.eq_def, ↓hop.eq_def, ↓hopH.eq_def, ↓hwp.eq_def, ↓ldV.eq_def, ↓ldK.eq_def, ↓ixK.eq_def, ↓addOff.eq_def, ↓exK.eq_def, ↓notK.eq_def, ↓pickK.eq_def, ↓iop2.eq_def, ↓binK.eq_def, ↓eqop.eq_def, icells, ↓iop.eq_def, ↓cutK.eq_def, ↓lenK.eq_def, ↓lenM.eq_def, tyInt, ↓lookK.eq_def, ↓mpK.eq_def, keyV, allI, fitK, lkM, upM, dlM, kq, ↓cvK.eq_def, ↓mmK.eq_def, ↓biK.eq_def, ↓stK.eq_def, ↓apK.eq_def, ↓apD.eq_def, ↓apM.eq_def, isMo, ↓apS.eq_def, nxt, put, setT, setB, delB, lkT_n, lkT_c, lkB_n, lkB_c, ev, ofC, inT, ofA, ofRet, dV_n, dV_c, getD_enc, toDs_dV, List.head?_cons, List.length_map, Option.toArray_some, Option.toArray_none, Int.toNat_natCast, slOf, TyK.agg, vcells, splice, pickOps, headF, restF, allF, zOf, strip, stripP, gOf, allP, rowV, toDs, toD, toA, toAs, headOps, tailOps, isT, addN, Op.operands, Call.operands, List.map_cons, List.map_nil, List.drop_zero, List.drop_succ_cons, List.take_succ_cons, List.take_zero, List.length_cons, List.length_nil, List.getElem?_cons_zero, List.getElem?_cons_succ, List.getElem?_toArray, Option.bind_some, Option.map_some, Option.map_none, List.append_nil, List.nil_append, List.cons_append, if_true, if_false, reduceIte, Nat.reduceEqDiff, Nat.reduceAdd, Nat.reduceSub, Int.reduceToNat, Nat.reduceLeDiff, Nat.reduceLT, and_false, and_self, Nat.zero_add, Nat.add_zero, reduceCtorEq, Option.getD_some, Option.getD_none, Option.isSome_some, Option.isSome_none, forall_const, true_and, and_true, true_implies, Bool.true_and, Bool.false_and, Bool.and_true, Bool.and_false, Bool.true_or, Bool.false_or, Bool.or_true, Bool.or_false, beq_self_eq_true, zipM, zcells, Value.cells, Value.oneCell', List.toList_toArray, Array.toList_append, Bool.not_not, List.cons.injEq, Int.reduceEq, eq_self, false_and, Bool.not_true, Bool.not_false, ne_eq, not_false_eq_true, imp_self, implies_true, av_bt, av_bf, av_and, av_or, av_nf, av_tt, av_n1, av_n2, av_t1, av_tp, retQ, retL, resV, RetV, RetOk, SubL, intD_len, intD_take, intD_hd, intD_ln, intD_ic, snocI, ty_3, ty_27, ty_4]; try simp (disch := omega) only [av_w, av_t1, av_tp, Int.toNat_natCast]))
  · rename_i h
    have he : a.length ≠ b.length := fun e => by rw [e] at h; simp at h
    exact Sub.of_eq (congrArg aB (decide_eq_false (fun e => he (by rw [e]))).symm)
  rename_i h
  have he : a.length = b.length := by have : (a.length : Int) = b.length := by simpa using h
                                      omega
  refine aw_loopI (fun k : Nat => ⟨[(0, .d (.sl 1 (intD 0) (a.map intD))), (1, .d (.sl 1 (intD 0) (b.map intD))), (5, vI k)], [], 0⟩) (samePre a b) (fun k => a.length - k) 0 ⟨Nat.zero_le _, fun i hi => absurd hi (Nat.not_lt_zero i)⟩ (wk_of [] rfl rfl ?_ ?_) ?_
  · simp only [wkT, wkB, wkB1, subV, subVs, subD, subB, lkN_n, lkN_c, lkT_n, lkT_c, lkB_n, lkB_c, if_true, if_false, reduceIte, Nat.reduceEqDiff, true_and, and_true, and_self, inT, ofA]
    (repeat' (first | exact trivial | rfl | exact rfl | refine And.intro ?_ ?_))
  · simp only [wkT, wkB, wkB1, subV, subVs, subD, subB, lkN_n, lkN_c, lkT_n, lkT_c, lkB_n, lkB_c, if_true, if_false, reduceIte, Nat.reduceEqDiff, true_and, and_true, and_self, inT, ofA]
  rintro k ⟨hk, h0⟩
  repeat' (first
    | (with_reducible refine aw_seq ?_)
    | ((with_reducible refine twoG_intro ?_ ?_) <;> intro hTw <;> first | (exact Bool.noConfusion hTw) | ((try simp only [hTw, Bool.not_true, Bool.not_false, Bool.true_and, Bool.false_and, Bool.and_true, Bool.and_false, Bool.true_or, Bool.false_or, Bool.or_true, Bool.or_false]); (first | (guard_hyp hTw : true = true; clear hTw) | (guard_hyp hTw : false = false; clear hTw) | (revert hTw; intro _))))
    | ((with_reducible refine two_intro ?_ ?_) <;> intro hTw <;> first | (exact Bool.noConfusion hTw) | ((first | (guard_hyp hTw : true = true; clear hTw) | (guard_hyp hTw : false = false; clear hTw) | (revert hTw; intro _))))
    | ((with_reducible refine And.intro ?_ ?_); (focus (first | omega | rfl | decide | grind)))
    | (with_reducible refine aw_block ?_)
    | (with_reducible refine aw_scope ?_)
    | ((first
        | ((with_reducible refine aw_regionA T_ok ?_ ?_); (focus kernel_rfl))
        | ((with_reducible refine aw_drawnA T_ok ?_ ?_ ?_ ?_); (focus kernel_rfl); (focus kernel_rfl); (focus (decide +kernel)))
        | ((with_reducible refine aw_drawnF T_ok ?_ ?_ ?_ ?_); (focus kernel_rfl); (focus kernel_rfl); (focus (decide +kernel)))
        | (with_reducible refine aw_label ?_)
        | ((with_reducible refine aw_rfM ?_ ?_); (focus kernel_rfl))
        | (with_reducible refine aw_skip ?_)
        | (with_reducible refine aw_exit ?_)
        | ((with_reducible refine aw_condM ?_ ?_); (focus kernel_rfl))
        | (with_reducible refine aw_ret ?_)
      ); simp only [↓rwp.eq_def, ↓sop.eq_def, ↓slotK.eq_def, inV, shT, unT, inQ, rfQ, rfEnd, resOf, pickT, setP, ydA, ydQ, rowW, vD, fillV,  ↓gop.eq_def, ↓hop.eq_def, ↓hopH.eq_def, ↓hwp.eq_def, ↓ldV.eq_def, ↓ldK.eq_def, ↓ixK.eq_def, ↓addOff.eq_def, ↓exK.eq_def, ↓notK.eq_def, ↓pickK.eq_def, ↓iop2.eq_def, ↓binK.eq_def, ↓eqop.eq_def, icells, ↓iop.eq_def, ↓cutK.eq_def, ↓lenK.eq_def, ↓lenM.eq_def, tyInt, ↓lookK.eq_def, ↓mpK.eq_def, keyV, allI, fitK, lkM, upM, dlM, kq, ↓cvK.eq_def, ↓mmK.eq_def, ↓biK.eq_def, ↓stK.eq_def, ↓apK.eq_def, ↓apD.eq_def, ↓apM.eq_def, isMo, ↓apS.eq_def, nxt, put, setT, setB, delB, lkT_n, lkT_c, lkB_n, lkB_c, ev, ofC, inT, ofA, ofRet, dV_n, dV_c, getD_enc, toDs_dV, List.head?_cons, List.length_map, Option.toArray_some, Option.toArray_none, Int.toNat_natCast, slOf, TyK.agg, vcells, splice, pickOps, headF, restF, allF, zOf, strip, stripP, gOf, allP, rowV, toDs, toD, toA, toAs, headOps, tailOps, isT, addN, Op.operands, Call.operands, List.map_cons, List.map_nil, List.drop_zero, List.drop_succ_cons, List.take_succ_cons, List.take_zero, List.length_cons, List.length_nil, List.getElem?_cons_zero, List.getElem?_cons_succ, List.getElem?_toArray, Option.bind_some, Option.map_some, Option.map_none, List.append_nil, List.nil_append, List.cons_append, if_true, if_false, reduceIte, Nat.reduceEqDiff, Nat.reduceAdd, Nat.reduceSub, Int.reduceToNat, Nat.reduceLeDiff, Nat.reduceLT, and_false, and_self, Nat.zero_add, Nat.add_zero, reduceCtorEq, Option.getD_some, Option.getD_none, Option.isSome_some, Option.isSome_none, forall_const, true_and, and_true, true_implies, Bool.true_and, Bool.false_and, Bool.and_true, Bool.and_false, Bool.true_or, Bool.false_or, Bool.or_true, Bool.or_false, beq_self_eq_true, zipM, zcells, Value.cells, Value.oneCell', List.toList_toArray, Array.toList_append, Bool.not_not, List.cons.injEq, Int.reduceEq, eq_self, false_and, Bool.not_true, Bool.not_false, ne_eq, not_false_eq_true, imp_self, implies_true, av_bt, av_bf, av_and, av_or, av_nf, av_tt, av_n1, av_n2, av_t1, av_tp, retQ, retL, resV, RetV, RetOk, SubL, intD_len, intD_take, intD_hd, intD_ln, intD_ic, snocI, ty_3, ty_27, ty_4]; try simp (disch := omega) only [av_w, av_t1, av_tp, Int.toNat_natCast]))
  · rename_i h1 h2
    have hlt : k < a.length := by simp at h1; omega
    have hn : a ≠ b := fun e => by rw [e] at h2; simp at h2
    exact Sub.of_eq (congrArg aB (decide_eq_false hn).symm)
  · rename_i h1 h2
    have hlt : k < a.length := by simp at h1; omega
    refine ⟨k + 1, ⟨by omega, fun i hi => ?_⟩, by dsimp only; omega, wk_of [] rfl rfl ?_ ?_⟩
    · by_cases hik : i = k
      · rw [hik]; simpa using h2
      · exact h0 i (by omega)
    · simp only [wkT, wkB, wkB1, subV, subVs, subD, subB, lkN_n, lkN_c, lkT_n, lkT_c, lkB_n, lkB_c, if_true, if_false, reduceIte, Nat.reduceEqDiff, true_and, and_true, and_self, inT, ofA]
      (repeat' (first | exact trivial | rfl | exact rfl | refine And.intro ?_ ?_))
    · simp only [wkT, wkB, wkB1, subV, subVs, subD, subB, lkN_n, lkN_c, lkT_n, lkT_c, lkB_n, lkB_c, if_true, if_false, reduceIte, Nat.reduceEqDiff, true_and, and_true, and_self, inT, ofA]
  · rename_i h1
    have hk2 : k = a.length := by simp at h1; omega
    subst hk2
    have hab : a = b := List.ext_getElem he (fun i h1 h2 => by have := h0 i h1; simpa [List.getD, h1, h2] using this)
    exact Sub.of_eq (congrArg aB (decide_eq_true hab).symm)
end Go.Proofs.Ytncihbmehbiekaa


namespace Go.Proofs.Ytncihbmehbiekaa
set_option linter.unusedVariables false
set_option linter.unusedSimpArgs false
open Go.RowKit
/-- the entries of a map of integers, in memory -/
structure MsOk (ms : Array MapEntry) (clock : Nat) (m : List (Int × Int)) : Prop where
  kv : ms.toList.map (fun e => (e.key, e.val)) = m.map fun p => (Value.int .i64 p.1, Value.int .i64 p.2)
  born : BornOk ms clock
section
variable {P : Program} {B : Base} {s : St} {K : St → Prop} {d : Option Tmp}
theorem rmp_ints {k : TypeId} {E : Env} : ∀ {ms : List MapEntry} {m : List (Int × Int)}, RMp P .i k E ms (m.map fun p => ([p.1], V.d (.c (.int .i64 p.2)))) → ms.map (fun e => (e.key, e.val)) = m.map fun p => (Value.int .i64 p.1, Value.int .i64 p.2)
  | [], [], _ => rfl
  | e :: ms, p :: m, h => by
    simp only [List.map_cons, RMp, RV, RD] at h
    obtain ⟨⟨h1, _, h2⟩, h3⟩ := h
    rw [List.map_cons, List.map_cons, rmp_ints h3, h2]
    congr 2
    unfold keyC at h1
    split at h1
    · rename_i n hk; rw [hk]; cases h1; rfl
    all_goals simp_all
  | [], _ :: _, h => by simp only [List.map_cons, RMp] at h
  | _ :: _, [], h => by simp only [List.map_nil, RMp] at h
theorem range_intro (m : List (Int × Int)) {t k el n : Nat} {x : Operand} {k' : TypeId} {zv : Value} {z0 : V} {es : List (List Int × V)} (ht : P.underlying t = some (.map k el)) (hx : ev (lkT s.tm) x = .mp n) (hst : lkB s.st n = some (.map .i k' zv z0 es)) (hes : es = m.map fun p => ([p.1], V.d (.c (.int .i64 p.2))))
    (h : ∀ b bm ms clock, MsOk ms clock m → K ⟨put d (.ptr s.nx 0) s.tm, (s.nx, .raw b (.mapIter (some bm) clock #[] clock)) :: setB n (.raw bm (.map ms clock)) s.st, s.nx + 1⟩) : genK P B (.range t x) d s K ⟨⟩ := by
  intro o E a ho hd hok hG
  subst hd
  have hok' := hok
  simp only [opOk, Bool.and_eq_true] at hok'
  have hdN : ∀ t, o.dst = some t → t < B.N := fun t e => by have := hok'.2; rw [e] at this; simpa using this
  have rx := ev_ok hG.2 x (opOk_mem hok x (by simp [ho, Op.operands]))
  rw [hx] at rx
  simp only [RV] at rx
  obtain ⟨b, ms, clock, g1, g2, g3, g4, g5, g6⟩ := hG.1.st n _ hst
  have gx : a.eval x = .map (some b) := Option.some.inj (rx.1.symm.trans g1)
  rw [hes] at g3
  have hms : MsOk ms clock m := ⟨rmp_ints g3, g5.2⟩
  have hW := GamS.write (x' := .raw b (.map ms clock)) (σ' := lkB (setB n (.raw b (.map ms clock)) s.st)) (w' := E.w) hG.1 hst (fun m => lkB_setB _ _ _ _) g1 rfl (fun o' ho' => (g6.2.2.2 o' ho').elim) rfl rfl rfl rfl (fun _ _ => rfl) (fun E' hE' hext hok => by
    subst hE'
    exact ⟨_, g1, rfl, g2, by simp, hok⟩)
  let it : Obj := .mapIter (some b) clock #[] clock
  let E' := E.name s.nx (.pointer (some ⟨E.w.heap.size, 0, none⟩)) E.F (E.w.alloc it)
  have hs : HStep E E' s.nx := hstep_name (below_alloc _ _) FtNew.same
  have hext := hs.ext hG.1.lt (hG.1.fresh _ (Nat.le_refl _))
  have hrun : (execOp a.eval o).run P E.w = .ok (.value (.pointer (some ⟨E.w.heap.size, 0, none⟩))) (E.w.alloc it) := by
    have : (execOp a.eval o).run P E.w = ((Instr.range t (.map (some b))).run P E.w).andThen fun v w => .ok (.value v) w := by simp [execOp, ho, gx]
    rw [this, run_range_map (P := P) E.w t k el b ms clock ht g2]
    rfl
  rw [hrun]
  have hH := GamS.head (σ' := lkB ((s.nx, .raw E.w.heap.size it) :: setB n (.raw b (.map ms clock)) s.st)) (fr' := fun n => s.nx + 1 ≤ n) (x := some (.raw E.w.heap.size it)) hW.1 hs
    ⟨.pointer (some ⟨E.w.heap.size, 0, none⟩), by simp [E', Env.name], fun b hb => by cases hb; exact Nat.le_refl _, .pointer (some ⟨E.w.heap.size, 0, none⟩), by simp [E', Env.name], rfl, heap_alloc_new _ _, by simp [it], okB_new hG.1.lt hG.1.size rfl (by simp [E', Env.name])⟩ (Nat.le_refl _) (fun n => rfl)
    (hW.1.none_of_fresh (Nat.le_refl _)) (fun n hn' => ⟨by omega, fun _ => by omega⟩)
  exact ⟨E', _, rfl, ⟨hH, (hG.2.ext hext hs.dp).put (by simp only [RV]; exact ⟨_, by simp [E', Env.name], rfl⟩) hdN⟩, h E.w.heap.size b ms clock hms⟩
/-- two ways of a range over a map: nothing is left; or an entry -/
structure TwoN (p q : Prop) : Prop where
  stop : p
  go : q
theorem next_intro (n : Nat) {it b bm clock : Nat} {x : Operand} {ms : Array MapEntry} {seen : Array Nat} (hx : ev (lkT s.tm) x = .ptr it 0) (hi : lkB s.st it = some (.raw b (.mapIter (some bm) clock seen clock))) (hm : lkB s.st n = some (.raw bm (.map ms clock))) (hbo : BornOk ms clock)
    (h : TwoN ((leftOf ms seen).size = 0 → K ⟨put d (.tup [vB false]) s.tm, s.st, s.nx⟩)
      (∀ e ∈ (leftOf ms seen).toList, K ⟨put d (.tup [vB true, .any, .any]) s.tm, setB it (.raw b (.mapIter (some bm) clock (seen.push e.born) clock)) s.st, s.nx⟩)) : genK P B (.next x false) d s K ⟨⟩ := by
  intro o E a ho hd hok hG
  subst hd
  have hok' := hok
  simp only [opOk, Bool.and_eq_true] at hok'
  have hdN : ∀ t, o.dst = some t → t < B.N := fun t e => by have := hok'.2; rw [e] at this; simpa using this
  have rx := ev_ok hG.2 x (opOk_mem hok x (by simp [ho, Op.operands]))
  rw [hx] at rx
  simp only [RV] at rx
  obtain ⟨b', e1, e2⟩ := rx
  obtain ⟨v, i1, i2, i3, i4, i5⟩ := hG.1.st it _ hi
  rw [e1] at i1
  cases i1
  have hbb : b' = b := by cases i2; rfl
  rw [hbb] at e1 e2
  obtain ⟨v', m1, m2, m3, m4, m5⟩ := hG.1.st n _ hm
  have hop : (execOp a.eval o).run P E.w = ((Instr.next (.pointer (some ⟨b, 0, none⟩)) false o.type).run P E.w).andThen fun v w => .ok (.value v) w := by
    simp [execOp, ho, e2]
  rw [hop]
  rcases run_next_at (P := P) E.w o.type b bm clock clock seen ms clock i3 m3 hbo.2 (Nat.le_refl _) with ⟨z, hrun⟩ | ⟨e, he, w1, hw1, hrun⟩
  · rw [hrun]
    exact ⟨E, ⟨put o.dst (.tup [vB false]) s.tm, s.st, s.nx⟩, rfl, ⟨hG.1, hG.2.put (by simp only [RV, RVL]; exact ⟨[.bool false], rfl, _, _, rfl, by simp [RD], rfl⟩) hdN⟩, h.stop z⟩
  · rw [hrun]
    have hW := GamS.write (x' := .raw b (.mapIter (some bm) clock (seen.push e.born) clock)) (σ' := lkB (setB it (.raw b (.mapIter (some bm) clock (seen.push e.born) clock)) s.st)) (w' := ChangeMaps.setBlock w1 b (.mapIter (some bm) clock (seen.push e.born) clock)) hG.1 hi (fun m => lkB_setB _ _ _ _) e1 rfl (fun o' ho' => (i5.2.2.2 o' ho').elim)
      (by rcases hw1 with rfl | rfl <;> rfl) (by rcases hw1 with rfl | rfl <;> rfl) (by rcases hw1 with rfl | rfl <;> rfl) (by rcases hw1 with rfl | rfl <;> exact Array.size_setIfInBounds)
      (fun i hi' => by rcases hw1 with rfl | rfl <;> exact setBlk_facts.1 i hi') (fun E' hE' hext hok => by
        subst hE'
        exact ⟨_, e1, rfl, by rcases hw1 with rfl | rfl <;> exact setBlk_facts.2 i5.2.1, by simp, hok⟩)
    exact ⟨_, _, rfl, ⟨hW.1, (hG.2.ext hW.2 rfl).put (by simp only [RV, RVL]; exact ⟨[.bool true, e.key, e.val], rfl, _, _, rfl, by simp [RD], _, _, rfl, trivial, _, _, rfl, trivial, rfl⟩) hdN⟩, h.go e he⟩
theorem entry_intro (n : Nat) {it b bm clock : Nat} {x : Operand} {ms : Array MapEntry} {seen : Array Nat} {e : MapEntry} (hx : ev (lkT s.tm) x = .ptr it 0) (hi : lkB s.st it = some (.raw b (.mapIter (some bm) clock (seen.push e.born) clock))) (hm : lkB s.st n = some (.raw bm (.map ms clock))) (hbo : BornOk ms clock) (he : e ∈ ms.toList)
    (h : K ⟨put d (.tup [.d (.c e.key), .d (.c e.val)]) s.tm, s.st, s.nx⟩) : genK P B (.entry x) d s K ⟨⟩ := by
  intro o E a ho hd hok hG
  subst hd
  have hok' := hok
  simp only [opOk, Bool.and_eq_true] at hok'
  have hdN : ∀ t, o.dst = some t → t < B.N := fun t e => by have := hok'.2; rw [e] at this; simpa using this
  have rx := ev_ok hG.2 x (opOk_mem hok x (by simp [ho, Op.operands]))
  rw [hx] at rx
  simp only [RV] at rx
  obtain ⟨b', e1, e2⟩ := rx
  obtain ⟨v, i1, i2, i3, i4, i5⟩ := hG.1.st it _ hi
  rw [e1] at i1
  cases i1
  have hbb : b' = b := by cases i2; rfl
  rw [hbb] at e1 e2
  obtain ⟨v', m1, m2, m3, m4, m5⟩ := hG.1.st n _ hm
  have hop : (execOp a.eval o).run P E.w = ((Instr.entry (.pointer (some ⟨b, 0, none⟩))).run P E.w).andThen fun v w => .ok (.value v) w := by
    simp [execOp, ho, e2]
  rw [hop, run_entry_at (P := P) E.w b bm clock seen ms clock e i3 m3 he hbo.1]
  exact ⟨E, ⟨put o.dst (.tup [.d (.c e.key), .d (.c e.val)]) s.tm, s.st, s.nx⟩, rfl, ⟨hG.1, hG.2.put (by simp only [RV, RVL]; exact ⟨[e.key, e.val], rfl, _, _, rfl, by simp [RD], _, _, rfl, by simp [RD], rfl⟩) hdN⟩, h⟩
end
/-- a written row that is written no more: an own row of data -/
def frzT (n : Nat) (v : V) : List (Nat × V) → List (Nat × V)
  | [] => []
  | (t, x) :: l => (t, match x with | .mo m => (if m = n then v else .mo m) | x => x) :: frzT n v l
theorem lkT_frzT (n : Nat) (v : V) (t : Nat) : ∀ l : List (Nat × V), lkT (frzT n v l) t = lkT l t ∨ (lkT l t = .mo n ∧ lkT (frzT n v l) t = v)
  | [] => .inl rfl
  | (u, x) :: l => by
    simp only [frzT, lkT]
    by_cases h : t = u
    · rw [if_pos h, if_pos h]
      cases x <;> first | exact .inl rfl | skip
      rename_i m
      by_cases hm : m = n
      · right; subst hm; exact ⟨rfl, if_pos rfl⟩
      · left; exact if_neg hm
    · rw [if_neg h, if_neg h]
      exact lkT_frzT n v t l
theorem flat_dV : ∀ es : List (List D), (es.map dV).flatten = dV es.flatten
  | [] => rfl
  | e :: es => by
    rw [List.map_cons, List.flatten_cons, List.flatten_cons, flat_dV es]
    simp [dV]
section
variable {P : Program} {B : Base} {s : St}
theorem gam_frz {n el sz : Nat} {d0V : List V} {d0 : List D} {esV : List (List V)} {es : List (List D)} (hn : lkB s.st n = some (.row el sz d0V esV)) (hes : esV = es.map dV) {E : Env} {a : Act} (hG : Gam P B s E a) :
    ∃ E', E'.w = E.w ∧ Gam P B ⟨frzT n (.ow n sz d0 es) s.tm, setB n (.tok el sz es.length) s.st, s.nx⟩ E' a := by
  subst hes
  obtain ⟨v, us, h1, h2, h3, h4, h5, h6, h7⟩ := hG.1.st n _ hn
  rw [List.length_map] at h2 h6
  rw [flat_dV] at h3
  let F' : Ft := ⟨fun b o => E.F.c b o ∨ (hb v = some b ∧ o < es.length * sz), E.F.m⟩
  have hle : E.F.le F' := ⟨fun _ _ h => .inl h, fun _ h => h⟩
  let E' : Env := ⟨E.η, F', E.w, E.dp⟩
  have hext : Ext E E' := ⟨fun _ _ h => h, hle, Kp.refl _ _⟩
  have hlen : us.length = es.length * sz := h2.1
  have hrow : RD F' E.w (.sl sz d0 es) v := by
    obtain ⟨a', cap, rfl, hcap⟩ := own_form h2
    simp only [RD]
    refine ⟨a', cap, rfl, by omega, by omega, ?_⟩
    rcases h2.2 with ⟨e8, h0⟩ | ⟨g, cap', cur, e8, _⟩
    · have : es = [] := List.eq_nil_of_length_eq_zero (by omega)
      rw [this]; simp [RR]
    · cases e8
      have hd : RDL F' E.w es.flatten us := RVL.to_data (E := E') (RVL.mono hext _ _ h3)
      refine RR.of_cells hd (fun e he => ?_) h5 (fun j u hj => ⟨.inr ⟨rfl, ?_⟩, ?_⟩)
      · have := h4 (dV e) (List.mem_map_of_mem he)
        simpa [dV] using this
      · have := (List.getElem?_eq_some_iff.1 hj).1
        omega
      · have := h2.cells (g := g) rfl j u hj
        rw [Addr.add_any] at this
        simpa using this
  have new : ∀ b o, F'.c b o → E.F.c b o ∨ (hb v = some b ∧ o < es.length * sz) := fun _ _ h => h
  have old : ∀ m y, lkB (setB n (.tok el sz es.length) s.st) m = some y → ∃ y', lkB s.st m = some y' := fun m y hy => by
    rw [lkB_setB] at hy
    by_cases hm : m = n
    · exact ⟨_, by rw [hm]; exact hn⟩
    · rw [if_neg hm] at hy; exact ⟨y, hy⟩
  refine ⟨E', rfl, ⟨hG.1.os, hG.1.tape, hG.1.output, hG.1.size, hG.1.old, Ft.le_trans hG.1.F0 hle, fun b o hc => ?_, hG.1.Fm, fun m y hy => ?_, fun i j p q b' v' u hij hpi hqj hvi huj hbi => ?_, hG.1.fresh, fun D hD => ?_⟩, fun t => ?_, hG.2.defers, hG.2.size⟩
  · rcases new b o hc with hc | ⟨hc, _⟩
    · exact hG.1.Fc b o hc
    · have hok := h7 b hc
      exact ⟨hok.1.elim (fun h => .inr (.inl h)) (fun h => .inr (.inr h)), hok.2.1⟩
  · show RBk P B E' m y
    rw [lkB_setB] at hy
    by_cases hm : m = n
    · rw [if_pos hm] at hy
      cases hy
      rw [hm]
      refine ⟨v, us, h1, h2, fun b hb' => ?_⟩
      have hok := h7 b hb'
      exact ⟨hok.1, hok.2.1, hok.2.2.1, fun o ho => (new b o ho).elim (fun h => (hok.2.2.2 o h).elim) (fun h => h.2)⟩
    · rw [if_neg hm] at hy
      refine (hG.1.st m y hy).keep (fun _ h => h) hext (Nat.le_refl _) (fun _ _ _ _ _ => rfl) (fun v' b' p' hv' hb' hok' => ⟨hok'.1, hok'.2.1, hok'.2.2.1, fun o ho => (new b' o ho).elim (hok'.2.2.2 o) (fun h => ?_)⟩)
      exact (hG.1.dist n m _ y b' v v' (Ne.symm hm) hn hy h1 hv' h.1 hb').elim
  · obtain ⟨p2, hp2⟩ := old i p hpi
    obtain ⟨q2, hq2⟩ := old j q hqj
    exact hG.1.dist i j p2 q2 b' v' u hij hp2 hq2 hvi huj hbi
  · obtain ⟨d1, d2, d3, d4⟩ := hG.1.dp D hD
    refine ⟨d1, d2, d3, fun o ho => (new D o ho).elim (d4 o) (fun h => ?_)⟩
    exact (hG.1.st n _ hn).nodp h1 h.1 d1
  · show RV E' (lkT (frzT n (.ow n sz d0 es) s.tm) t) _
    rcases lkT_frzT n (.ow n sz d0 es) t s.tm with h | ⟨h8, h9⟩
    · rw [h]; exact RV.mono hext _ _ (hG.2.tm t)
    · rw [h9]
      have := hG.2.tm t
      rw [h8] at this
      simp only [RV] at this ⊢
      have hv : v = vOf B a t := Option.some.inj (h1.symm.trans this.1)
      exact ⟨this.1, by rw [← hv]; exact hrow⟩
theorem aw_frz (n : Nat) {el sz : Nat} {d0V : List V} (d0 : List D) {esV : List (List V)} (es : List (List D)) {c : Code} {Q : AQ} (hn : lkB s.st n = some (.row el sz d0V esV)) (hes : esV = es.map dV)
    (h : AW P B c Q ⟨⟩ ⟨frzT n (.ow n sz d0 es) s.tm, setB n (.tok el sz es.length) s.st, s.nx⟩) : AW P B c Q ⟨⟩ s :=
  aw_weak (fun _ _ hG => gam_frz hn hes hG) h
end
end Go.Proofs.Ytncihbmehbiekaa


namespace Go.Proofs.Ytncihbmehbiekaa
set_option linter.unusedVariables false
set_option linter.unusedSimpArgs false
set_option linter.defProp false
open Go.RowKit
def avP := And.intro (And.intro (And.intro (And.intro (@rwp.eq_def) (And.intro (@sop.eq_def) (@slotK.eq_def))) (And.intro (And.intro (@gop.eq_def) (@hop.eq_def)) (And.intro (@hopH.eq_def) (@hwp.eq_def)))) (And.intro (And.intro (And.intro (@ldV.eq_def) (@ldK.eq_def)) (And.intro (@ixK.eq_def) (@addOff.eq_def))) (And.intro (And.intro (@exK.eq_def) (@notK.eq_def)) (And.intro (@pickK.eq_def) (@iop2.eq_def))))) (And.intro (And.intro (And.intro (@binK.eq_def) (And.intro (@eqop.eq_def) (@iop.eq_def))) (And.intro (And.intro (@cutK.eq_def) (@lenK.eq_def)) (And.intro (@lenM.eq_def) (@lookK.eq_def)))) (And.intro (And.intro (And.intro (@mpK.eq_def) (@cvK.eq_def)) (And.intro (@mmK.eq_def) (@biK.eq_def))) (And.intro (And.intro (@stK.eq_def) (@apK.eq_def)) (And.intro (And.intro (@apD.eq_def) (@apM.eq_def)) (And.intro (@apS.eq_def) (And.intro (@isMo.eq_1) (@isMo.eq_2)))))))
def avQ := And.intro (And.intro (And.intro (And.intro (And.intro (And.intro (And.intro (And.intro (@inV.eq_1) (@inV.eq_2)) (And.intro (@shT.eq_1) (@shT.eq_2))) (And.intro (And.intro (@unT.eq_1) (@unT.eq_2)) (And.intro (@inQ.eq_1) (@inQ.eq_2)))) (And.intro (And.intro (And.intro (@inQ.eq_3) (@rfQ.eq_1)) (And.intro (@rfQ.eq_2) (@rfQ.eq_3))) (And.intro (And.intro (@rfEnd.eq_1) (@rfEnd.eq_2)) (And.intro (@rfEnd.eq_3) (@rfEnd.eq_4))))) (And.intro (And.intro (And.intro (And.intro (@resOf.eq_1) (@resOf.eq_2)) (And.intro (@pickT.eq_1) (@pickT.eq_2))) (And.intro (And.intro (@setP.eq_1) (@setP.eq_2)) (And.intro (@ydA.eq_1) (@ydA.eq_2)))) (And.intro (And.intro (And.intro (@ydQ.eq_1) (@rowW.eq_1)) (And.intro (@rowW.eq_2) (@vD.eq_1))) (And.intro (And.intro (@vD.eq_2) (@fillV.eq_1)) (And.intro (@fillV.eq_2) (@icells.eq_1)))))) (And.intro (And.intro (And.intro (And.intro (And.intro (@icells.eq_2) (@icells.eq_3)) (And.intro (@tyInt.eq_1) (@keyV.eq_1))) (And.intro (And.intro (@keyV.eq_2) (@keyV.eq_3)) (And.intro (@keyV.eq_4) (@allI.eq_1)))) (And.intro (And.intro (And.intro (@allI.eq_2) (@fitK.eq_1)) (And.intro (@fitK.eq_2) (@fitK.eq_3))) (And.intro (And.intro (@lkM.eq_1) (@lkM.eq_2)) (And.intro (@upM.eq_1) (@upM.eq_2))))) (And.intro (And.intro (And.intro (And.intro (@dlM.eq_1) (@dlM.eq_2)) (And.intro (@kq.eq_1) (@kq.eq_2))) (And.intro (And.intro (@kq.eq_3) (@kq.eq_4)) (And.intro (@kq.eq_5) (@nxt.eq_1)))) (And.intro (And.intro (And.intro (@nxt.eq_2) (@put.eq_1)) (And.intro (@put.eq_2) (@setT.eq_1))) (And.intro (And.intro (@setT.eq_2) (@setB.eq_1)) (And.intro (@setB.eq_2) (And.intro (@delB.eq_1) (@delB.eq_2)))))))) (And.intro (And.intro (And.intro (And.intro (And.intro (And.intro (@lkT_n) (@lkT_c)) (And.intro (@lkB_n) (@lkB_c))) (And.intro (And.intro (@ev.eq_1) (@ev.eq_2)) (And.intro (@ev.eq_3) (@ev.eq_4)))) (And.intro (And.intro (And.intro (@ofC.eq_1) (@ofC.eq_2)) (And.intro (@inT.eq_1) (@inT.eq_2))) (And.intro (And.intro (@ofA.eq_1) (@ofA.eq_2)) (And.intro (@ofRet.eq_1) (@ofRet.eq_2))))) (And.intro (And.intro (And.intro (And.intro (@dV_n) (@dV_c)) (And.intro (@getD_enc) (@toDs_dV))) (And.intro (And.intro (@List.head?_cons.{0}) (@List.length_map.{0,0})) (And.intro (@Option.toArray_some.{0}) (@Option.toArray_none.{0})))) (And.intro (And.intro (And.intro (@Int.toNat_natCast) (@slOf.eq_1)) (And.intro (@slOf.eq_2) (@slOf.eq_3))) (And.intro (And.intro (@TyK.agg.eq_1) (@TyK.agg.eq_2)) (And.intro (@TyK.agg.eq_3) (@vcells.eq_1)))))) (And.intro (And.intro (And.intro (And.intro (And.intro (@vcells.eq_2) (@vcells.eq_3)) (And.intro (@vcells.eq_4) (@vcells.eq_5))) (And.intro (And.intro (@vcells.eq_6) (@vcells.eq_7)) (And.intro (@vcells.eq_8) (@vcells.eq_9)))) (And.intro (And.intro (And.intro (@vcells.eq_10) (@vcells.eq_11)) (And.intro (@vcells.eq_12) (@vcells.eq_13))) (And.intro (And.intro (@vcells.eq_14) (@vcells.eq_15)) (And.intro (@vcells.eq_16) (@splice.eq_1))))) (And.intro (And.intro (And.intro (And.intro (@pickOps.eq_1) (@pickOps.eq_2)) (And.intro (@headF.eq_1) (@headF.eq_2))) (And.intro (And.intro (@restF.eq_1) (@restF.eq_2)) (And.intro (@allF.eq_1) (@allF.eq_2)))) (And.intro (And.intro (And.intro (@zOf.eq_1) (@strip.eq_1)) (And.intro (@strip.eq_2) (@stripP.eq_1))) (And.intro (And.intro (@stripP.eq_2) (@gOf.eq_1)) (And.intro (@allP.eq_1) (And.intro (@allP.eq_2) (@rowV.eq_1))))))))) (And.intro (And.intro (And.intro (And.intro (And.intro (And.intro (And.intro (@rowV.eq_2) (@toDs.eq_1)) (And.intro (@toDs.eq_2) (@toD.eq_1))) (And.intro (And.intro (@toD.eq_2) (@toD.eq_3)) (And.intro (@toA.eq_1) (@toA.eq_2)))) (And.intro (And.intro (And.intro (@toAs.eq_1) (@toAs.eq_2)) (And.intro (@headOps.eq_1) (@headOps.eq_2))) (And.intro (And.intro (@tailOps.eq_1) (@tailOps.eq_2)) (And.intro (@isT.eq_1) (@isT.eq_2))))) (And.intro (And.intro (And.intro (And.intro (@isT.eq_3) (@isT.eq_4)) (And.intro (@isT.eq_5) (@isT.eq_6))) (And.intro (And.intro (@isT.eq_7) (@addN.eq_1)) (And.intro (@addN.eq_2) (@Go.Op.operands.eq_1)))) (And.intro (And.intro (And.intro (@Go.Op.operands.eq_2) (@Go.Op.operands.eq_3)) (And.intro (@Go.Op.operands.eq_4) (@Go.Op.operands.eq_5))) (And.intro (And.intro (@Go.Op.operands.eq_6) (@Go.Op.operands.eq_7)) (And.intro (@Go.Op.operands.eq_8) (@Go.Op.operands.eq_9)))))) (And.intro (And.intro (And.intro (And.intro (And.intro (@Go.Op.operands.eq_10) (@Go.Op.operands.eq_11)) (And.intro (@Go.Op.operands.eq_12) (@Go.Op.operands.eq_13))) (And.intro (And.intro (@Go.Op.operands.eq_14) (@Go.Op.operands.eq_15)) (And.intro (@Go.Op.operands.eq_16) (@Go.Op.operands.eq_17)))) (And.intro (And.intro (And.intro (@Go.Op.operands.eq_18) (@Go.Op.operands.eq_19)) (And.intro (@Go.Op.operands.eq_20) (@Go.Op.operands.eq_21))) (And.intro (And.intro (@Go.Op.operands.eq_22) (@Go.Op.operands.eq_23)) (And.intro (@Go.Op.operands.eq_24) (@Go.Op.operands.eq_25))))) (And.intro (And.intro (And.intro (And.intro (@Go.Op.operands.eq_26) (@Go.Op.operands.eq_27)) (And.intro (@Go.Op.operands.eq_28) (@Go.Op.operands.eq_29))) (And.intro (And.intro (@Go.Op.operands.eq_30) (@Go.Op.operands.eq_31)) (And.intro (@Go.Op.operands.eq_32) (@Go.Op.operands.eq_33)))) (And.intro (And.intro (And.intro (@Go.Op.operands.eq_34) (@Go.Op.operands.eq_35)) (And.intro (@Go.Op.operands.eq_36) (@Go.Op.operands.eq_37))) (And.intro (And.intro (@Go.Op.operands.eq_38) (@Go.Op.operands.eq_39)) (And.intro (@Go.Op.operands.eq_40) (And.intro (@Go.Op.operands.eq_41) (@Go.Op.operands.eq_42)))))))) (And.intro (And.intro (And.intro (And.intro (And.intro (And.intro (@Go.Op.operands.eq_43) (@Go.Call.operands.eq_1)) (And.intro (@List.map_cons.{0,0}) (@List.map_nil.{0,0}))) (And.intro (And.intro (@List.drop_zero.{0}) (@List.drop_succ_cons.{0})) (And.intro (@List.take_succ_cons.{0}) (@List.take_zero.{0})))) (And.intro (And.intro (And.intro (@List.length_cons.{0}) (@List.length_nil.{0})) (And.intro (@List.getElem?_cons_zero.{0}) (@List.getElem?_cons_succ.{0}))) (And.intro (And.intro (@List.getElem?_toArray.{0}) (@Option.bind_some.{0,0})) (And.intro (@Option.map_some.{0,0}) (@Option.map_none.{0,0}))))) (And.intro (And.intro (And.intro (And.intro (@List.append_nil.{0}) (@List.nil_append.{0})) (And.intro (@List.cons_append.{0}) (@and_false))) (And.intro (And.intro (@and_self) (@Nat.zero_add)) (And.intro (@Nat.add_zero) (@Option.getD_some.{0})))) (And.intro (And.intro (And.intro (@Option.getD_none.{0}) (@Option.isSome_some.{0})) (And.intro (@Option.isSome_none.{0}) (@true_and))) (And.intro (And.intro (@and_true) (@true_implies)) (And.intro (@Bool.true_and) (@Bool.false_and)))))) (And.intro (And.intro (And.intro (And.intro (And.intro (@Bool.and_true) (@Bool.and_false)) (And.intro (@Bool.true_or) (@Bool.false_or))) (And.intro (And.intro (@Bool.or_true) (@Bool.or_false)) (And.intro (@zipM.eq_1) (@zipM.eq_2)))) (And.intro (And.intro (And.intro (@zcells.eq_1) (@Go.Value.cells.eq_1)) (And.intro (@Go.Value.cells.eq_2) (@Go.Value.oneCell'.eq_1))) (And.intro (And.intro (@Go.Value.oneCell'.eq_2) (@Go.Value.oneCell'.eq_3)) (And.intro (@List.toList_toArray.{0}) (@Array.toList_append.{0}))))) (And.intro (And.intro (And.intro (And.intro (@Bool.not_not) (@List.cons.injEq.{0})) (And.intro (@false_and) (@Bool.not_true))) (And.intro (And.intro (@Bool.not_false) (@not_false_eq_true)) (And.intro (@imp_self) (@av_bt)))) (And.intro (And.intro (And.intro (@av_bf) (@av_and)) (And.intro (@av_or) (@av_nf))) (And.intro (And.intro (@av_tt) (@av_n1)) (And.intro (@av_n2) (And.intro (@av_t1) (@av_tp)))))))))
end Go.Proofs.Ytncihbmehbiekaa

