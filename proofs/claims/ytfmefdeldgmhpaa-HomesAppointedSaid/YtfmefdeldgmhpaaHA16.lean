import Derived.Test.YtfmefdeldgmhpaaHA1
import Derived.Test.YtfmefdeldgmhpaaHA13
import Derived.SizedLaws
import Derived.Test.YtfmefdeldgmhpaaHA15
import Derived.Test.YtfmefdeldgmhpaaHA2
import Derived.Test.YtfmefdeldgmhpaaHA9
namespace Go.Proofs.Ytfmefdeldgmhpaa
set_option linter.unusedSimpArgs false
open Go.ChangeShapes Go.WideShapes Go.ChangeAt Go.RowKit
set_option linter.unusedVariables false

def Opens {α : Type} (P : Program) (t : TypeId) (R : RepT α) : Prop :=
  ∀ {H : Type} {enc : TypeId × Value → H} {W : World} {n : Nat} {cs : List Value} {x : DataW H × List MemPlace}, DataW.trod enc P W 0 (fun _ => true) true n t cs = some x → (∀ k ∈ x.1.weights P t, k ≤ reachBytes) → ∃ y : α, R (Now W) W y cs
section
variable {α β : Type} {P : Program} {t e : TypeId} {sz : Nat} {R : RepT α}
theorem opens_int {k : IntKind} (hu : P.underlying t = some (.int k)) : Opens P t (RI k) := fun h _ => by
  obtain ⟨n, e, _, hw⟩ := DataW.trod_int hu h
  exact ⟨n, e, hw⟩
theorem mapM_get {f : Nat → Option Value} : ∀ {l : List Nat} {cs : List Value}, l.mapM f = some cs → cs.length = l.length ∧ ∀ (j : Nat) (u : Value), cs[j]? = some u → ∃ i : Nat, l[j]? = some i ∧ f i = some u
  | [], cs, h => by
    simp at h
    subst h
    exact ⟨rfl, fun j u h => by simp at h⟩
  | i :: l, cs, h => by
    rw [List.mapM_cons] at h
    cases h1 : f i with
    | none => simp [h1] at h
    | some u =>
      cases h2 : l.mapM f with
      | none => simp [h1, h2] at h
      | some us =>
        simp [h1, h2] at h
        subst h
        obtain ⟨hl, hg⟩ := mapM_get h2
        refine ⟨by simp [hl], fun j v hv => ?_⟩
        cases j with
        | zero => simp at hv; subst hv; exact ⟨i, rfl, h1⟩
        | succ j => simpa using hg j v (by simpa using hv)
theorem cells_get {w : World} {a : Addr} {n : Nat} {cs : List Value} (h : w.cells? 0 a n = some cs) : cs.length = n ∧ ∀ (j : Nat) (u : Value), cs[j]? = some u → w.cell? (a.add j) = some u := by
  unfold World.cells? at h
  rw [if_pos (Nat.zero_le _)] at h
  obtain ⟨hl, hg⟩ := mapM_get h
  refine ⟨by simpa using hl, fun j u hu => ?_⟩
  obtain ⟨i, hi, hf⟩ := hg j u hu
  have : i = j := by
    have hj : j < n := by have := (List.getElem?_eq_some_iff.1 hu).1; rw [hl] at this; simpa using this
    rw [List.getElem?_range hj] at hi
    exact (Option.some.inj hi).symm
  rw [this] at hf
  exact hf
theorem weights_all {H : Type} {d : DataW H} {k : Nat} : ∀ {l : List (DataW H)}, d ∈ l → k ∈ d.weights P e → k ∈ DataW.weightsAll P e l
  | [], h, _ => by cases h
  | x :: l, h, hk => by
    simp only [DataW.weightsAll, List.mem_append]
    rcases List.mem_cons.1 h with rfl | h
    · exact .inl hk
    · exact .inr (weights_all h hk)
theorem pick_list {Q : Nat → α → Prop} : ∀ n, (∀ i, i < n → ∃ y, Q i y) → ∃ l : List α, l.length = n ∧ ∀ i (h : i < l.length), Q i l[i]
  | 0, _ => ⟨[], rfl, fun i h => by cases h⟩
  | n + 1, h => by
    obtain ⟨l, hl, hq⟩ := pick_list n (fun i hi => h i (by omega))
    obtain ⟨y, hy⟩ := h n (by omega)
    refine ⟨l ++ [y], by simp [hl], fun i hi => ?_⟩
    by_cases hi' : i < l.length
    · rw [List.getElem_append_left hi']; exact hq i hi'
    · have : i = l.length := by simp at hi; omega
      subst this
      simp [hl, hy]
theorem opens_slice (g : Good sz R) (ho : Opens P e R) (hu : P.underlying t = some (.slice e)) (hc : P.cellsOf e = sz) (hpos : 0 < sz) (hb : 1 ≤ P.bytesOf e) : Opens P t (RS sz R) := by
  intro H enc W n cs x h hw
  rcases DataW.trod_slice hu h with ⟨rfl, _⟩ | ⟨a, len, cap, elems, rest, m, rfl, rfl, rfl, _, hl, _, hlen, hel, _, _⟩
  · exact ⟨[], none, 0, rfl, Nat.le_refl _, by simp, RRow.nil _⟩
  · simp only [DataW.weights, hu] at hw
    have hsz := hw _ (List.mem_cons_self ..)
    rw [List.length_map, List.length_map] at hsz
    have hbig : elems.length ≤ 140737488351232 := by
      unfold reachBytes at hsz
      have := Nat.mul_le_mul_left (elems.length + rest.length) hb
      omega
    rw [hc] at hel
    by_cases hl0 : len = 0
    · subst hl0
      exact ⟨[], some a, cap, rfl, by simp, by simp, RRow.nil _⟩
    have hs : a.spot = none := by
      have h0 := hel 0 (by omega)
      rw [List.getElem?_eq_getElem (by omega)] at h0
      cases hcs : W.cells? 0 (a.add (0 * sz)) sz with
      | none => rw [hcs] at h0; cases h0
      | some cs =>
        obtain ⟨hl2, hg⟩ := cells_get hcs
        have h9 := World.cell?_spot (hg 0 cs[0] (by simp))
        simpa [Addr.add] using h9
    obtain ⟨b, off, spot⟩ := a
    subst hs
    have key : ∀ i, i < len → ∃ y : α, ∃ cs, Now W b ∧ R (Now W) W y cs ∧ ∀ j u, cs[j]? = some u → W.cell? ⟨b, off + i * sz + j, none⟩ = some u := by
      intro i hi
      have h0 := hel i hi
      have he : elems[i]? = some (elems[i]'(by omega)) := List.getElem?_eq_getElem (by omega)
      rw [he] at h0
      cases hcs : W.cells? 0 (Addr.add ⟨b, off, none⟩ (i * sz)) sz with
      | none => rw [hcs] at h0; cases h0
      | some cs =>
        rw [hcs, Option.bind_some] at h0
        obtain ⟨y, hy⟩ := ho h0 (fun k hk => hw k (by
          refine List.mem_cons_of_mem _ (List.mem_append.2 (.inl ?_))
          exact weights_all (List.mem_map.2 ⟨_, List.getElem_mem (by omega), rfl⟩) hk))
        obtain ⟨hl2, hg⟩ := cells_get hcs
        have hc0 := hg 0 cs[0] (by simp)
        refine ⟨y, cs, ?_, hy, fun j u hu => ?_⟩
        · have := World.block_lt_of_cell? _ _ hc0
          rw [add_plain, add_plain] at this
          exact this
        · have := hg j u hu
          rw [add_plain, add_plain] at this
          exact this
    obtain ⟨l, hll, hq⟩ := pick_list len key
    refine ⟨l, some ⟨b, off, none⟩, cap, by rw [hll], by rw [hll]; exact hl, by rw [hll, ← hlen]; exact hbig, fun i hi => ?_⟩
    obtain ⟨cs, h1, h2, h3⟩ := hq i hi
    exact ⟨b, off, cs, rfl, h1, h2, h3⟩

/-- a struct's fields from the one at offset o on -/
def OpensL {γ : Type} (P : Program) (l : List Field) (o : Nat) (T : RepT γ) : Prop :=
  ∀ {H : Type} {enc : TypeId × Value → H} {W : World} {n : Nat} {cs : List Value} {xs : List (DataW H × List MemPlace)}, xs.length = l.length → (cs.length + o = (l.map fun f => P.cellsOf f.type).foldl (· + ·) o) →
    (∀ (i : Nat) (f : Field), l[i]? = some f → o ≤ f.offset ∧ DataW.trod enc P W 0 (fun _ => true) true n f.type ((cs.drop (f.offset - o)).take (P.cellsOf f.type)) = xs[i]?) →
    (∀ (i : Nat) (f : Field) (x : DataW H × List MemPlace), l[i]? = some f → xs[i]? = some x → ∀ k ∈ x.1.weights P f.type, k ≤ reachBytes) → ∃ y : γ, T (Now W) W y cs
def RNil : RepT Unit := fun _ _ _ cs => cs = []
theorem opensL_nil {o : Nat} : OpensL P [] o RNil := fun hx hl _ _ => by
  simp at hl
  exact ⟨(), hl⟩
theorem foldl_add (l : List Nat) (o : Nat) : l.foldl (· + ·) o = o + l.foldl (· + ·) 0 := by
  induction l generalizing o with
  | nil => simp
  | cons x l ih => rw [List.foldl_cons, List.foldl_cons, ih (o + x), ih (0 + x)]; omega
theorem opensL_cons {f : Field} {l : List Field} {o s1 : Nat} {S : RepT β} (g : Good s1 R) (ho : Opens P f.type R) (hs : P.cellsOf f.type = s1) (hof : f.offset = o) (hall : ∀ f' ∈ l, o + s1 ≤ f'.offset) (hl : OpensL P l (o + s1) S) : OpensL P (f :: l) o (RP R S) := by
  intro H enc W n cs xs hx hlen hel hw
  rw [List.map_cons, List.foldl_cons, foldl_add, hs] at hlen
  match xs, hx with
  | x :: xs, hx =>
    have h0 := (hel 0 f rfl).2
    rw [hof, Nat.sub_self, List.drop_zero, hs] at h0
    obtain ⟨y, hy⟩ := ho h0 (hw 0 f x rfl rfl)
    obtain ⟨z, hz⟩ := hl (cs := cs.drop s1) (xs := xs) (n := n) (enc := enc) (by simpa using hx) (by rw [List.length_drop, foldl_add]; omega) (fun i f' hf => by
      have h1 := hel (i + 1) f' (by simpa using hf)
      have h2 := hall f' (List.mem_of_getElem? hf)
      refine ⟨h2, ?_⟩
      have h3 := h1.2
      rw [List.drop_drop, show s1 + (f'.offset - (o + s1)) = f'.offset - o by omega]
      simpa using h3) (fun i f' x' hf hx' => hw (i + 1) f' x' (by simpa using hf) (by simpa using hx'))
    exact ⟨(y, z), cs.take s1, cs.drop s1, (List.take_append_drop ..).symm, hy, hz⟩
theorem opens_struct {fs : Array Field} {γ : Type} {T : RepT γ} (hu : P.underlying t = some (.struct fs)) (hc : P.cellsOf t = (fs.toList.map fun f => P.cellsOf f.type).foldl (· + ·) 0) (hT : OpensL P fs.toList 0 T) : Opens P t T := by
  intro H enc W n cs x h hw
  obtain ⟨xs, m, rfl, rfl, hl, hlen, hf⟩ := DataW.trod_struct hu h
  refine hT (xs := xs) (n := m) (enc := enc) (by simpa using hlen) (by rw [hl, hc]; rfl) (fun i f hi => ⟨Nat.zero_le _, by simpa using hf i f (by simpa using hi)⟩) (fun i f x hi hx k hk => hw k ?_)
  simp only [DataW.weights, hu]
  exact DataW.weights_mem_each (by rw [List.getElem?_map, hi]; rfl) (by rw [List.getElem?_map, hx]; rfl) k hk
theorem opens_map {γ : Type} {T : RepT γ} {f : α → γ} (h : Opens P t R) (hm : ∀ {F w x cs}, R F w x cs → T F w (f x) cs) : Opens P t T := fun h1 h2 => by
  obtain ⟨y, hy⟩ := h h1 h2
  exact ⟨f y, hm hy⟩
theorem sized {H : Type} {ts : List TypeId} {ds : List (DataW H)} (h : (DataW.weightsEach P ts ds).all (· ≤ reachBytes) = true) {j : Nat} {t : TypeId} {d : DataW H} (ht : ts[j]? = some t) (hd : ds[j]? = some d) : ∀ k ∈ d.weights P t, k ≤ reachBytes := fun k hk => by
  have := List.all_eq_true.1 h _ (DataW.weights_mem_each ht hd k hk)
  simpa using this
section
variable {H : Type} {enc : TypeId × Value → H} {W : World} {base : Nat} {v : Value} {d : DataW H} {ps : List MemPlace}
end
end
end Go.Proofs.Ytfmefdeldgmhpaa


namespace Go.Proofs.Ytfmefdeldgmhpaa
set_option linter.unusedSimpArgs false
open Go.ChangeShapes Go.WideShapes Go.ChangeAt Go.RowKit
set_option linter.unusedVariables false
abbrev ftB (F : Nat → Prop) : Ft := ⟨fun b _ => F b, F⟩
/-- a datum by its data -/
def RE {α : Type} (enc : α → List D) (ok : α → Prop) : RepT α := fun F w x cs => ok x ∧ RDL (ftB F) w (enc x) cs ∧ ∀ u ∈ cs, u.oneCell' = true
section
variable {α β : Type} {P : Program} {t e : TypeId} {sz : Nat} {enc : α → List D} {ok : α → Prop} {enc2 : β → List D} {ok2 : β → Prop} {F : Nat → Prop} {w : World}
theorem good_re (hl : ∀ x, (enc x).length = sz) : Good sz (RE enc ok) :=
  ⟨fun {F F' w w'} hF hk {x cs} h => ⟨h.1, RDL.mono (F := ftB F) (G := ftB F') ⟨fun b o hb => hF b hb, fun b hb => hF b hb⟩ (Kp.of_blocks (F := ftB F) (fun x o hx => hk x hx) (fun x hx => hk x hx)) _ _ h.2.1, h.2.2⟩,
   fun {F w x cs} h => by rw [RDL.len h.2.1, hl], fun {F w x cs} h => h.2.2⟩
theorem ore_int {k : IntKind} (hu : P.underlying t = some (.int k)) : Opens P t (RE (fun n : Int => [.c (.int k n)]) (fun n => (Lit.int k n).wf = true)) :=
  opens_map (f := fun n : Int => n) (opens_int hu) fun {F w x cs} h => ⟨h.2, by rw [h.1]; exact ⟨_, _, rfl, rfl, rfl⟩, by rw [h.1]; simp [Value.oneCell']⟩
theorem rep_re {p : α × β} {cs : List Value} (h : RP (RE enc ok) (RE enc2 ok2) F w p cs) : RE (fun p : α × β => enc p.1 ++ enc2 p.2) (fun p => ok p.1 ∧ ok2 p.2) F w p cs := by
  obtain ⟨c1, c2, rfl, h1, h2⟩ := h
  refine ⟨⟨h1.1, h2.1⟩, RDL.append h1.2.1 h2.2.1, fun u hu => ?_⟩
  rcases List.mem_append.1 hu with hu | hu
  · exact h1.2.2 u hu
  · exact h2.2.2 u hu
theorem opensL_map {γ δ : Type} {l : List Field} {o : Nat} {T : RepT γ} {U : RepT δ} {f : γ → δ} (h : OpensL P l o T) (hm : ∀ {F w x cs}, T F w x cs → U F w (f x) cs) : OpensL P l o U := fun h1 h2 h3 h4 => by
  obtain ⟨y, hy⟩ := h h1 h2 h3 h4
  exact ⟨f y, hm hy⟩
theorem oreL_nil {o : Nat} : OpensL P [] o (RE (fun _ : Unit => []) (fun _ => True)) :=
  opensL_map (f := fun u : Unit => u) opensL_nil fun {F w x cs} h => ⟨trivial, h, by rw [h]; simp⟩
theorem oreL_cons {f : Field} {l : List Field} {o s1 : Nat} (hl1 : ∀ x, (enc x).length = s1) (ho : Opens P f.type (RE enc ok)) (hs : P.cellsOf f.type = s1) (hof : f.offset = o) (hall : ∀ f' ∈ l, o + s1 ≤ f'.offset) (hl : OpensL P l (o + s1) (RE enc2 ok2)) :
    OpensL P (f :: l) o (RE (fun p : α × β => enc p.1 ++ enc2 p.2) (fun p => ok p.1 ∧ ok2 p.2)) :=
  opensL_map (f := fun p : α × β => p) (opensL_cons (good_re hl1) ho hs hof hall hl) fun {F w x cs} h => rep_re h
/-- a field of one cell -/
theorem oreL_1 {f : Field} {l : List Field} {o : Nat} (ho : Opens P f.type (RE enc ok)) (hl1 : ∀ x, (enc x).length = 1) (hs : P.cellsOf f.type = 1) (hof : f.offset = o) (hall : ∀ f' ∈ l, o + 1 ≤ f'.offset) (hl : OpensL P l (o + 1) (RE enc2 ok2)) :
    OpensL P (f :: l) o (RE (fun p : α × β => enc p.1 ++ enc2 p.2) (fun p => ok p.1 ∧ ok2 p.2)) := oreL_cons hl1 ho hs hof hall hl
theorem ore_map {f : α → β} (h : Opens P t (RE enc ok)) (he : ∀ x, enc2 (f x) = enc x) (hok : ∀ x, ok x → ok2 (f x)) : Opens P t (RE enc2 ok2) :=
  opens_map (f := f) h fun {F w x cs} h => ⟨hok _ h.1, by rw [he]; exact h.2.1, h.2.2⟩
theorem rr_of {l : List α} {a : Option Addr} (hl : ∀ x, (enc x).length = sz) (h : RRow sz (RE enc ok) F w l a) : RR (ftB F) w sz a (l.map enc) 0 ∧ ∀ x ∈ l, ok x := by
  have key : ∀ (m : List α) (n : Nat), (∀ i (hi : i < m.length), ∃ b off cs, a = some ⟨b, off, none⟩ ∧ F b ∧ RE enc ok F w m[i] cs ∧ ∀ j u, cs[j]? = some u → w.cell? ⟨b, off + (n + i) * sz + j, none⟩ = some u) → RR (ftB F) w sz a (m.map enc) (n * sz) ∧ ∀ x ∈ m, ok x := by
    intro m
    induction m with
    | nil => intro n _; exact ⟨trivial, by simp⟩
    | cons x m ih =>
      intro n h
      obtain ⟨b, off, cs, h1, h2, h3, h4⟩ := h 0 (by simp)
      have h3' : RE enc ok F w x cs := h3
      obtain ⟨k1, k2⟩ := ih (n + 1) (fun i hi => by
        obtain ⟨b', off', cs', g1, g2, g3, g4⟩ := h (i + 1) (by simpa using hi)
        exact ⟨b', off', cs', g1, g2, g3, fun j u hj => by have := g4 j u hj; rw [show n + 1 + i = n + (i + 1) by omega]; exact this⟩)
      refine ⟨⟨⟨b, off, cs, h1, h3'.2.1, by rw [RDL.len h3'.2.1, hl], h3'.2.2, fun j u hj => ⟨h2, ?_⟩⟩, ?_⟩, ?_⟩
      · have := h4 j u hj
        simpa using this
      · rw [Nat.add_mul, Nat.one_mul] at k1
        exact k1
      · intro y hy
        rcases List.mem_cons.1 hy with rfl | hy
        · exact h3'.1
        · exact k2 y hy
  have := key l 0 (fun i hi => by
    obtain ⟨b, off, cs, h1, h2, h3, h4⟩ := h i hi
    exact ⟨b, off, cs, h1, h2, h3, fun j u hj => by rw [Nat.zero_add]; exact h4 j u hj⟩)
  simpa using this
theorem ore_slice (d0 : List D) (hl : ∀ x, (enc x).length = sz) (ho : Opens P e (RE enc ok)) (hu : P.underlying t = some (.slice e)) (hc : P.cellsOf e = sz) (hpos : 0 < sz) (hb : 1 ≤ P.bytesOf e) :
    Opens P t (RE (fun l : List α => [.sl sz d0 (l.map enc)]) (fun l => l.length ≤ 140737488351232 ∧ ∀ x ∈ l, ok x)) :=
  opens_map (f := fun l : List α => l) (opens_slice (good_re hl) ho hu hc hpos hb) fun {F w x cs} h => by
    obtain ⟨a, cap, rfl, h1, h2, h3⟩ := h
    obtain ⟨k1, k2⟩ := rr_of hl h3
    refine ⟨⟨h2, k2⟩, ⟨_, _, rfl, ⟨a, cap, by rw [List.length_map], by simpa using h1, by simpa using h2, k1⟩, rfl⟩, by simp [Value.oneCell']⟩
/-- as a law's arguments -/
abbrev ftN (w : World) : Ft := ftB (Now w)
theorem ftN_lt (w : World) : (ftN w).lt w := ⟨fun _ _ h => h, fun _ h => h⟩
variable {H : Type} {en : TypeId × Value → H} {W : World} {base : Nat} {v : Value} {d : DataW H} {ps : List MemPlace}
theorem arg_int {k : IntKind} (hu : P.underlying t = some (.int k)) (hok : Value.okWide P W .any base t v) (h : DataW.Trod en P W 0 (fun _ => true) true t v d ps) : ∃ n : Int, (Lit.int k n).wf = true ∧ RA (ftN W) W (.one (.c (.int k n))) v := by
  obtain ⟨z, rfl, rfl, rfl, wz⟩ := open_int hu hok h
  exact ⟨z, wz, rfl⟩
theorem arg_row {dd0 : List D} {ok' : List α → Prop} (ho : Opens P t (RE (fun l : List α => [.sl sz dd0 (l.map enc)]) ok')) (hu : P.underlying t = some (.slice e)) (hok : Value.okWide P W .any base t v) (h : DataW.Trod en P W 0 (fun _ => true) true t v d ps) (hw : ∀ k ∈ d.weights P t, k ≤ reachBytes) :
    ∃ l, ok' l ∧ RA (ftN W) W (.one (.sl sz dd0 (l.map enc))) v := by
  obtain ⟨a0, len, cp, rfl⟩ := okWide_slice hu hok
  obtain ⟨fuel, hf⟩ := h
  obtain ⟨l, h1, h2, h3⟩ := ho hf hw
  obtain ⟨u, r, e1, h4, h5⟩ := h2
  simp [Value.cells] at e1
  exact ⟨l, h1, by rw [e1.1]; exact h4⟩
end
end Go.Proofs.Ytfmefdeldgmhpaa


namespace Go.Proofs.Ytfmefdeldgmhpaa
set_option linter.unusedSimpArgs false
set_option linter.unusedVariables false
open Go.ChangeShapes Go.WideShapes Go.ChangeAt Go.RowKit
structure OkE (x : Ent) : Prop where
  no : i64 x.no
  kind : i64 x.kind
  a : i64 x.a
  b : i64 x.b
  frm : i64 x.frm
  til : i64 x.til
  known : i64 x.known
  gone : i64 x.gone
theorem opens_ent : Opens Try.prog 39 (RE entD OkE) :=
  ore_map (f := fun x : Int × Int × Int × Int × Int × Int × Int × Int × Unit => (⟨x.1, x.2.1, x.2.2.1, x.2.2.2.1, x.2.2.2.2.1, x.2.2.2.2.2.1, x.2.2.2.2.2.2.1, x.2.2.2.2.2.2.2.1⟩ : Ent))
    (opens_struct Try.underlying39 (by kernel_rfl)
      (oreL_1 (ore_int Try.underlying3) (by intro x; rfl) (by kernel_rfl) rfl (by simp) (oreL_1 (ore_int Try.underlying3) (by intro x; rfl) (by kernel_rfl) rfl (by simp)
      (oreL_1 (ore_int Try.underlying3) (by intro x; rfl) (by kernel_rfl) rfl (by simp) (oreL_1 (ore_int Try.underlying3) (by intro x; rfl) (by kernel_rfl) rfl (by simp)
      (oreL_1 (ore_int Try.underlying3) (by intro x; rfl) (by kernel_rfl) rfl (by simp) (oreL_1 (ore_int Try.underlying3) (by intro x; rfl) (by kernel_rfl) rfl (by simp)
      (oreL_1 (ore_int Try.underlying3) (by intro x; rfl) (by kernel_rfl) rfl (by simp) (oreL_1 (ore_int Try.underlying3) (by intro x; rfl) (by kernel_rfl) rfl (by simp) oreL_nil)))))))))
    (by intro x; rfl) (by rintro x ⟨h1, h2, h3, h4, h5, h6, h7, h8, _⟩; exact ⟨wf_i64 h1, wf_i64 h2, wf_i64 h3, wf_i64 h4, wf_i64 h5, wf_i64 h6, wf_i64 h7, wf_i64 h8⟩)
theorem opens_ents : Opens Try.prog 22 (RE (fun l : List Ent => [.sl 8 (entD default) (l.map entD)]) (fun l => l.length ≤ 140737488351232 ∧ ∀ x ∈ l, OkE x)) :=
  ore_slice (sz := 8) (entD default) (by intro x; rfl) opens_ent Try.underlying22 (by kernel_rfl) (by decide) (Nat.le_of_ble_eq_true (by kernel_rfl))
theorem okE_kind {l : List Ent} (h : ∀ x ∈ l, OkE x) : ∀ k, i64 (l.getD k default).kind := kindsAt fun x hx => (h x hx).kind
end Go.Proofs.Ytfmefdeldgmhpaa




namespace Go.Proofs.Ytfmefdeldgmhpaa
set_option linter.unusedSimpArgs false
set_option linter.unusedVariables false
open Go.RowKit
set_option maxRecDepth 100000
set_option maxHeartbeats 4000000
theorem agentsL_len (l : List Ent) (person day time : Int) (h : errO l person day time = 0) : (agentsL l person day time).length ≤ l.length + 1 := by
  have h2 := stand_len l day time
  have h3 := askedL_len (standE l day time) person
  rw [agentsL, if_pos h]
  omega
end Go.Proofs.Ytfmefdeldgmhpaa


namespace Go.Proofs.Ytfmefdeldgmhpaa
set_option linter.unusedSimpArgs false
set_option linter.unusedVariables false
open Go.RowKit
set_option maxRecDepth 100000
set_option maxHeartbeats 4000000
theorem chain_in (nx : Int → Option Int) : ∀ (n : Nat) (met : List Int) (p : Int), ∀ x ∈ (chainF nx n met p).1, x = p ∨ ∃ y, nx y = some x
  | 0, met, p, x, h => .inl (by simpa [chainF] using h)
  | n + 1, met, p, x, h => by
    simp only [chainF] at h
    cases hq : nx p with
    | none => rw [hq] at h; exact .inl (by simpa using h)
    | some q =>
      simp only [hq] at h
      by_cases hm : q ∈ p :: met
      · rw [if_pos hm] at h; exact .inl (by simpa using h)
      · rw [if_neg hm] at h
        rcases List.mem_cons.1 h with h | h
        · exact .inl h
        · rcases chain_in nx n (p :: met) q x h with rfl | h
          · exact .inr ⟨p, hq⟩
          · exact .inr h
theorem asked_in {xs : List Ent} {p : Int} (hv : ∀ y ∈ xs, validE y = true) (hp : 0 ≤ p ∧ p ≤ 1048576) : ∀ x ∈ (askedL xs p).1, 0 ≤ x ∧ x ≤ 1048576 := fun x hx => by
  rcases chain_in (nxK xs) xs.length [] p x hx with rfl | ⟨y, hy⟩
  · exact hp
  · unfold nxK at hy
    cases hl : lastK 2 y xs with
    | none => rw [hl] at hy; cases hy
    | some e =>
      rw [hl] at hy
      have := lastK_b hv hl
      simp at hy
      omega
theorem FineL.at {l : List Ent} {person day time p : Int} (h : FineL l person day time) (hp : 0 ≤ p ∧ p ≤ 1048576) : FineL l p day time := { h with p0 := hp.1, p1 := hp.2 }
end Go.Proofs.Ytfmefdeldgmhpaa


namespace Go.Proofs.Ytfmefdeldgmhpaa
set_option linter.unusedSimpArgs false
set_option linter.unusedVariables false
open Go.RowKit
theorem errA_zero {l : List Ent} {x : Ent} : errA l x = 0 ↔ checkL l = 0 ∧ validE x = true ∧ (∀ y ∈ l, y.no ≠ x.no) ∧ l.length ≠ 1024 := by
  unfold errA
  constructor
  · intro h
    split at h
    · rename_i h1; exact absurd h h1
    · rename_i h1
      split at h
      · cases h
      · rename_i h2
        split at h
        · cases h
        · rename_i h3
          split at h
          · cases h
          · rename_i h4
            refine ⟨by simpa using h1, by simpa using h2, fun y hy e => h3 ?_, h4⟩
            exact List.any_eq_true.2 ⟨y, hy, by simpa using e⟩
  · rintro ⟨h1, h2, h3, h4⟩
    rw [if_neg (by simpa using h1), if_neg (by simp [h2]), if_neg, if_neg h4]
    intro h
    obtain ⟨y, hy, e⟩ := List.any_eq_true.1 h
    exact h3 y hy (by simpa using e)
theorem addP_perm (l : List Ent) (x : Ent) : (addP l x).Perm (x :: l) := by
  unfold addP
  rw [List.append_assoc, List.singleton_append]
  exact List.perm_middle.trans ((List.filter_append_perm _ l).cons x)
theorem add_ok {l : List Ent} {x : Ent} (h : errA l x = 0) : checkL (addL l x) = 0 ∧ (addL l x).Perm (x :: l) := by
  rw [addL, if_pos h]
  obtain ⟨h1, h2, h3, h4⟩ := errA_zero.1 h
  obtain ⟨c1, c2, c3⟩ := checkL_ok h1
  have hp := addP_perm l x
  refine ⟨checkL_of ?_ ?_ fun y hy => ?_, hp⟩
  · rw [hp.length_eq, List.length_cons]; omega
  · unfold addP
    rw [List.append_assoc, List.singleton_append, List.pairwise_append, List.pairwise_cons]
    refine ⟨c2.sublist List.filter_sublist, ⟨fun y hy => ?_, c2.sublist List.filter_sublist⟩, fun y hy z hz => ?_⟩
    · obtain ⟨q1, q2⟩ := List.mem_filter.1 hy
      have := h3 y q1
      simp only [Bool.not_eq_true', decide_eq_false_iff_not] at q2
      omega
    · obtain ⟨q1, q2⟩ := List.mem_filter.1 hy
      simp only [decide_eq_true_eq] at q2
      rcases List.mem_cons.1 hz with rfl | hz
      · exact q2
      · obtain ⟨q3, q4⟩ := List.mem_filter.1 hz
        simp only [Bool.not_eq_true', decide_eq_false_iff_not] at q4
        omega
  · rcases List.mem_cons.1 (hp.mem_iff.1 hy) with rfl | hy
    · exact h2
    · exact c3 y hy
end Go.Proofs.Ytfmefdeldgmhpaa


namespace Go.Proofs.Ytfmefdeldgmhpaa
set_option linter.unusedSimpArgs false
set_option linter.unusedVariables false
open Go.RowKit
theorem getD_memI {l : List Int} {k : Nat} (h : k < l.length) : l.getD k 0 ∈ l := by
  have : l.getD k 0 = l[k] := by simp [List.getD, h]
  rw [this]; exact List.getElem_mem h
theorem getE_mem {l : List Ent} {k : Nat} (h : k < l.length) : l.getD k default ∈ l := by
  have : l.getD k default = l[k] := by simp [List.getD, h]
  rw [this]; exact List.getElem_mem h
theorem validE_id {x : Ent} (h : validE x = true) : 0 ≤ x.no ∧ x.no ≤ 1048576 := by
  simp only [validE, idB, Bool.and_eq_true, decide_eq_true_eq] at h
  exact h.1.1.1.1
abbrev appE (no person agent day time : Int) : Ent := ⟨no, 2, person, agent, day, day + 1, time, time + 1⟩
def noA (l : List Ent) : Int := if l.length = 0 then 0 else (l.getD (l.length - 1) default).no + 1
theorem noA_gt {l : List Ent} (h : checkL l = 0) : 0 ≤ noA l ∧ ∀ y ∈ l, y.no < noA l := by
  obtain ⟨_, h2, h3⟩ := checkL_ok h
  rcases List.eq_nil_or_concat l with rfl | ⟨m, z, rfl⟩
  · exact ⟨by simp [noA], fun y hy => (by cases hy)⟩
  · rw [List.concat_eq_append] at h2 h3 ⊢
    have e : noA (m ++ [z]) = z.no + 1 := by simp [noA, List.getD]
    have hz := validE_no z (h3 z (by simp))
    rw [e]
    refine ⟨by omega, fun y hy => ?_⟩
    rcases List.mem_append.1 hy with hy | hy
    · have := (List.pairwise_append.1 h2).2.2 y hy z (by simp)
      omega
    · rw [List.mem_singleton.1 hy]; omega
section
variable {l : List Ent} {person agent day time no : Int}
theorem addL_end (h : errA l (appE no person agent day time) = 0) (hno : ∀ y ∈ l, y.no < no) : addL l (appE no person agent day time) = l ++ [appE no person agent day time] := by
  rw [addL, if_pos h, addP, List.filter_eq_self.2 fun y hy => decide_eq_true (hno y hy), List.filter_eq_nil_iff.2 fun y hy => by have := hno y hy; simpa using this, List.append_nil]
theorem app_stand (hno : ∀ y ∈ l, y.no < no) : standRef day time (l ++ [appE no person agent day time]) = (standRef day time l).filter (fun y => !(y.kind == 2 && y.a == person)) ++ [appE no person agent day time] := by
  have hx : countsB day time (appE no person agent day time) = true := by simp [countsB]; omega
  unfold standRef
  rw [List.filter_append, List.filter_filter]
  congr 1
  · refine List.filter_congr fun y hy => ?_
    have h1 := hno y hy
    rw [List.any_append]
    simp only [List.any_cons, List.any_nil, Bool.or_false, hx, Bool.true_and]
    cases hc : countsB day time y with
    | false => simp
    | true =>
      have h2 : y.frm ≤ day := by simp [countsB] at hc; omega
      have hr : replB (appE no person agent day time) y = (y.kind == 2 && y.a == person) := by
        rw [Bool.eq_iff_iff]
        simp only [replB, Ent.key, oneB, Bool.and_eq_true, Bool.or_eq_true, decide_eq_true_eq, beq_iff_eq, Prod.mk.injEq]
        constructor
        · rintro ⟨⟨⟨e1, e2⟩, _⟩, _⟩
          exact ⟨e1.symm, e2.symm⟩
        · rintro ⟨e1, e2⟩
          refine ⟨⟨⟨e1.symm, e2.symm⟩, .inr e1⟩, ?_⟩
          rcases Int.lt_or_le y.frm day with h | h
          · exact .inl h
          · exact .inr ⟨by omega, h1⟩
      rw [hr]
      cases (l.any fun z => countsB day time z && replB z y) <;> cases (y.kind == 2 && y.a == person) <;> rfl
  · rw [List.filter_cons, if_pos, List.filter_nil]
    rw [hx, Bool.true_and, Bool.not_eq_true', List.any_eq_false]
    intro y hy h
    simp only [replB, Bool.and_eq_true, Bool.or_eq_true, decide_eq_true_eq, beq_iff_eq] at h
    obtain ⟨hc, _, h⟩ := h
    have h2 : y.frm ≤ day := by simp [countsB] at hc; omega
    rcases List.mem_append.1 hy with hy | hy
    · have := hno y hy
      have : day < y.frm ∨ y.frm = day ∧ no < y.no := h
      omega
    · rw [List.mem_singleton.1 hy] at h
      have : day < day ∨ day = day ∧ no < no := h
      omega
theorem app_later : standRef day (time + 1) (l ++ [appE no person agent day time]) = standRef day (time + 1) l := by
  have hx : countsB day (time + 1) (appE no person agent day time) = false := by simp [countsB]
  unfold standRef
  rw [List.filter_append]
  simp only [List.any_append, List.any_cons, List.any_nil, hx, Bool.false_and, Bool.or_false]
  rw [List.filter_cons, if_neg (by rw [hx]; simp), List.filter_nil, List.append_nil]
theorem lastK_snoc (κ a : Int) (xs : List Ent) (x : Ent) : lastK κ a (xs ++ [x]) = if x.kind = κ ∧ x.a = a then some x else lastK κ a xs := by
  rw [lastK, List.foldl_append]; rfl
theorem lastK_filter2 (κ a : Int) (q : Ent → Bool) (xs : List Ent) (h : ∀ y : Ent, y.kind = κ → y.a = a → q y = true) : lastK κ a (xs.filter q) = lastK κ a xs := by
  refine list_snoc (motive := fun xs => lastK κ a (xs.filter q) = lastK κ a xs) rfl (fun p y ih => ?_) xs
  rw [List.filter_append, lastK_snoc, ← ih]
  by_cases hy : y.kind = κ ∧ y.a = a
  · rw [if_pos hy, List.filter_cons, if_pos (h y hy.1 hy.2), List.filter_nil, lastK_snoc, if_pos hy]
  · rw [if_neg hy, List.filter_cons]
    split
    · rw [List.filter_nil, lastK_snoc, if_neg hy]
    · rw [List.filter_nil, List.append_nil]
theorem app_last (xs : List Ent) (κ a : Int) : lastK κ a (xs.filter (fun y => !(y.kind == 2 && y.a == person)) ++ [appE no person agent day time]) = if 2 = κ ∧ person = a then some (appE no person agent day time) else lastK κ a xs := by
  rw [lastK_snoc]
  by_cases h : 2 = κ ∧ person = a
  · rw [if_pos h, if_pos h]
  · rw [if_neg h, if_neg h, lastK_filter2]
    intro y h1 h2
    cases hb : (y.kind == 2 && y.a == person) with
    | false => rfl
    | true =>
      simp only [Bool.and_eq_true, beq_iff_eq] at hb
      exact (h ⟨hb.1.symm.trans h1, hb.2.symm.trans h2⟩).elim
theorem chain_head (nx : Int → Option Int) (n : Nat) (met : List Int) (p : Int) : p ∈ (chainF nx n met p).1 := by
  cases n with
  | zero => simp [chainF]
  | succ n =>
    rw [chainF]
    cases nx p with
    | none => simp
    | some q => simp only []; split <;> simp
theorem chain_congr2 {nx nx' : Int → Option Int} {s : Int} (hnx : ∀ p, p ≠ s → nx' p = nx p) : ∀ (n : Nat) (met met' : List Int) (p : Int), (∀ z, z ∈ met' ↔ z ∈ met ∨ z = s) → s ∉ (chainF nx n met p).1 → chainF nx' n met' p = chainF nx n met p
  | 0, _, _, _, _, _ => rfl
  | n + 1, met, met', p, hm, hs => by
    have hp : p ≠ s := fun e => hs (by rw [← e]; exact chain_head nx _ met p)
    rw [chainF, chainF, hnx p hp]
    rw [chainF] at hs
    cases hq : nx p with
    | none => rfl
    | some q =>
      rw [hq] at hs
      simp only [] at hs ⊢
      by_cases hqm : q ∈ p :: met
      · rw [if_pos hqm, if_pos]
        rcases List.mem_cons.1 hqm with h | h
        · rw [h]; simp
        · exact List.mem_cons_of_mem _ ((hm q).2 (.inl h))
      · rw [if_neg hqm] at hs
        simp only [List.mem_cons, not_or] at hs
        have hqs : q ≠ s := fun e => hs.2 (by rw [← e]; exact chain_head nx _ _ q)
        rw [if_neg hqm, if_neg, chain_congr2 hnx n (p :: met) (p :: met') q (fun z => by
          rw [List.mem_cons, List.mem_cons, hm z, or_assoc]) hs.2]
        intro h
        rcases List.mem_cons.1 h with h | h
        · exact hqm (by rw [h]; simp)
        · rcases (hm q).1 h with h | h
          · exact hqm (List.mem_cons_of_mem _ h)
          · exact hqs h
/-- the person's chain begins with the person and goes on as the agent's -/
theorem app_asked (xs : List Ent) (hpa : person ≠ agent) (hn : person ∉ (askedL xs agent).1) :
    askedL (xs.filter (fun y => !(y.kind == 2 && y.a == person)) ++ [appE no person agent day time]) person = (person :: (askedL xs agent).1, (askedL xs agent).2) := by
  have hnp : nxK (xs.filter (fun y => !(y.kind == 2 && y.a == person)) ++ [appE no person agent day time]) person = some agent := by
    rw [nxK, app_last, if_pos ⟨rfl, rfl⟩]; rfl
  have hnx : ∀ p, p ≠ person → nxK (xs.filter (fun y => !(y.kind == 2 && y.a == person)) ++ [appE no person agent day time]) p = nxK xs p := fun p hp => by
    rw [nxK, app_last, if_neg fun h => hp h.2.symm]; rfl
  rw [← asked_more _ person (xs.length + 1) (by
    rw [List.length_append, List.length_singleton]
    have := List.length_filter_le (fun y : Ent => !(y.kind == 2 && y.a == person)) xs
    omega), chainF, hnp]
  simp only []
  rw [if_neg (by simp only [List.mem_cons, List.not_mem_nil, or_false]; exact fun h => hpa h.symm), chain_congr2 hnx xs.length [] [person] agent (fun z => by simp) hn]
  rfl
theorem app_home (xs : List Ent) (hpa : person ≠ agent) (hn : person ∉ (askedL xs agent).1) :
    homeK (xs.filter (fun y => !(y.kind == 2 && y.a == person)) ++ [appE no person agent day time]) person = if (askedL xs agent).2 = true then ⟨2, person, 0⟩ else homeK xs agent := by
  have ha := app_asked (day := day) (time := time) (no := no) xs hpa hn
  have hne := asked_ne xs agent
  have hl : lastOf (person :: (askedL xs agent).1) person = lastOf (askedL xs agent).1 agent := by
    obtain ⟨x, r, e⟩ := List.exists_cons_of_ne_nil hne
    rw [e]
    show (person :: x :: r).getLastD person = (x :: r).getLastD agent
    rw [List.getLastD_cons, List.getLastD_cons, List.getLastD_cons]
  have h1 : ∀ κ : Int, κ ≠ 2 → ∀ a, lastK κ a (xs.filter (fun y => !(y.kind == 2 && y.a == person)) ++ [appE no person agent day time]) = lastK κ a xs := fun κ hκ a => by
    rw [app_last, if_neg fun h => hκ h.1.symm]
  unfold homeK
  rw [ha]
  simp only []
  rw [hl, h1 3 (by decide), h1 4 (by decide), h1 1 (by decide)]
  by_cases hc : (askedL xs agent).2 = true
  · rw [if_pos hc, if_pos hc]
  · rw [if_neg hc, if_neg hc, if_neg hc]
theorem last_getD {A : List Int} (h : A ≠ []) (p : Int) : lastOf A p = A.getD (A.length - 1) 0 := by
  rcases List.eq_nil_or_concat A with rfl | ⟨m, z, rfl⟩
  · exact (h rfl).elim
  · rw [List.concat_eq_append]; simp [lastOf, List.getD]
/-- a circle, by the last one who is asked -/
theorem app_circle (xs : List Ent) (hv : ∀ y ∈ xs, validE y = true) (p : Int) : (askedL xs p).2 = decide (1 < (askedL xs ((askedL xs p).1.getD ((askedL xs p).1.length - 1) 0)).1.length) := by
  obtain ⟨⟨r, h1⟩, h2, o, h4, h5, h6⟩ := asked_spec xs p
  have hne := asked_ne xs p
  have hlen : 0 < (askedL xs p).1.length := List.length_pos_iff.2 hne
  have hp := path_at h4 ((askedL xs p).1.length - 1) (by omega)
  rw [if_neg (by omega)] at hp
  obtain ⟨z, hz⟩ : ∃ z, z = (askedL xs p).1.getD ((askedL xs p).1.length - 1) 0 := ⟨_, rfl⟩
  rw [← hz] at hp ⊢
  cases hc : (askedL xs p).2 with
  | false =>
    have : nxK xs z = none := hp.trans (h6 hc)
    have e : (askedL xs z).1 = [z] := by
      unfold askedL
      cases xs.length with
      | zero => rfl
      | succ n => rw [chainF, this]
    rw [e]; rfl
  | true =>
    obtain ⟨q, e, _⟩ := h5 hc
    rw [e] at hp
    have hqz : q ≠ z := by
      unfold nxK at hp
      cases hl : lastK 2 z xs with
      | none => rw [hl] at hp; cases hp
      | some y =>
        obtain ⟨y1, y2, y3⟩ := lastK_some hl
        rw [hl] at hp
        have hb : y.b = q := by simpa using hp
        have hvy := hv y y1
        simp only [validE, fitsB, y2, Bool.and_eq_true] at hvy
        have := hvy.2
        simp at this
        have h3 := this.1
        omega
    obtain ⟨n, hn⟩ : ∃ n, xs.length = n + 1 := by
      have := nxK_mem xs z (by rw [hp]; simp)
      have : xs ≠ [] := by rintro rfl; cases this
      have := List.length_pos_iff.2 this
      exact ⟨xs.length - 1, by omega⟩
    have e2 : (askedL xs z).1 = z :: (chainF (nxK xs) n [z] q).1 := by
      unfold askedL
      rw [hn, chainF, hp]
      simp only []
      rw [if_neg (by simpa using hqz)]
    have := List.length_pos_of_mem (chain_head (nxK xs) n [z] q)
    rw [e2]
    exact (decide_eq_true (by rw [List.length_cons]; omega)).symm
/-- all of the law -/
structure AppOk (l : List Ent) (person agent day time : Int) : Prop where
  more : addL l (appE (noA l) person agent day time) = l ++ [appE (noA l) person agent day time]
  ne : agentsL l agent day time ≠ []
  e1 : errO (l ++ [appE (noA l) person agent day time]) person day time = 0
  e2 : errO (l ++ [appE (noA l) person agent day time]) person day (time + 1) = 0
  e3 : errO l person day (time + 1) = 0
  e4 : person ∉ agentsL l agent day time → errO l ((agentsL l agent day time).getD ((agentsL l agent day time).length - 1) 0) day time = 0
  later : whereL (l ++ [appE (noA l) person agent day time]) person day (time + 1) = whereL l person day (time + 1)
  now : person ∉ agentsL l agent day time → whereL (l ++ [appE (noA l) person agent day time]) person day time = if 1 < (agentsL l ((agentsL l agent day time).getD ((agentsL l agent day time).length - 1) 0) day time).length then ⟨2, person, 0⟩ else whereL l agent day time
theorem app_valid (hp : 0 ≤ person ∧ person ≤ 1048576) (ha : 0 ≤ agent ∧ agent ≤ 1048576) (hd : 0 ≤ day ∧ day + 1 < 2097152) (ht : 0 ≤ time ∧ time + 1 < 2097152) (hpa : person ≠ agent) (hno : 0 ≤ no ∧ no ≤ 1048576) : validE (appE no person agent day time) = true := by
  simp only [validE, idB, spanB, fitsB, appE]
  simp
  omega
theorem app_err (hf : checkL l = 0) (hl : l.length ≤ 22) (hv : validE (appE (noA l) person agent day time) = true) : errA l (appE (noA l) person agent day time) = 0 :=
  errA_zero.2 ⟨hf, hv, fun y hy => by have := (noA_gt hf).2 y hy; show y.no ≠ noA l; omega, by omega⟩
theorem app_all (hf : FineL l person day time) (hg : FineL l agent day time) (hl : l.length ≤ 22) (hpa : person ≠ agent) (hno : noA l ≤ 1048576) (hd : day + 1 < 2097152) (ht : time + 1 < 2097152) : AppOk l person agent day time := by
  have hv := app_valid (no := noA l) ⟨hf.p0, hf.p1⟩ ⟨hg.p0, hg.p1⟩ ⟨hf.d0, hd⟩ ⟨hf.t0, ht⟩ hpa ⟨(noA_gt hf.good).1, hno⟩
  have he := app_err hf.good hl hv
  have hgt := (noA_gt hf.good).2
  have hm := addL_end he hgt
  obtain ⟨hc, _⟩ := add_ok he
  rw [hm] at hc
  have hfm : FineL (l ++ [appE (noA l) person agent day time]) person day time := ⟨by rw [List.length_append, List.length_singleton]; omega, hc, hf.p0, hf.p1, hf.d0, hf.d1, hf.t0, hf.t1⟩
  have hfm' : FineL (l ++ [appE (noA l) person agent day time]) person day (time + 1) := ⟨hfm.few, hc, hf.p0, hf.p1, hf.d0, hf.d1, by have := hf.t0; omega, ht⟩
  have hf' : FineL l person day (time + 1) := ⟨hf.few, hf.good, hf.p0, hf.p1, hf.d0, hf.d1, by have := hf.t0; omega, ht⟩
  have s0 : standE l day time = standRef day time l := by rw [standE, if_pos hf.errS]
  have s1 : standE (l ++ [appE (noA l) person agent day time]) day time = (standRef day time l).filter (fun y => !(y.kind == 2 && y.a == person)) ++ [appE (noA l) person agent day time] := by
    rw [standE, if_pos hfm.errS, app_stand hgt]
  have s2 : standE (l ++ [appE (noA l) person agent day time]) day (time + 1) = standE l day (time + 1) := by
    rw [standE, if_pos hfm'.errS, standE, if_pos hf'.errS, app_later]
  have ea : agentsL l agent day time = (askedL (standRef day time l) agent).1 := by rw [agentsL, if_pos hg.errO, s0]
  have hvs : ∀ y ∈ standRef day time l, validE y = true := fun y hy => (checkL_ok hf.good).2.2 y (List.mem_filter.1 hy).1
  have hin := asked_in hvs (p := agent) ⟨hg.p0, hg.p1⟩
  have hz : ∀ z, z = (agentsL l agent day time).getD ((agentsL l agent day time).length - 1) 0 → errO l z day time = 0 := fun z hz => by
    have hne := asked_ne (standRef day time l) agent
    have hlen : 0 < (askedL (standRef day time l) agent).1.length := List.length_pos_iff.2 hne
    rw [ea] at hz
    have : z ∈ (askedL (standRef day time l) agent).1 := by rw [hz]; exact getD_memI (by omega)
    exact (hf.at (hin z this)).errO
  refine ⟨hm, by rw [ea]; exact asked_ne _ _, hfm.errO, hfm'.errO, hf'.errO, fun _ => hz _ rfl, ?_, fun hn => ?_⟩
  · rw [whereL, if_pos hfm'.errO, s2, whereL, if_pos hf'.errO]
  · have hc := app_circle (standRef day time l) hvs agent
    have hzz := hz _ rfl
    rw [ea] at hn hzz ⊢
    rw [whereL, if_pos hfm.errO, s1, app_home _ hpa hn, hc, whereL, if_pos hg.errO, s0, agentsL, if_pos hzz, s0]
    simp only [decide_eq_true_eq]
end
end Go.Proofs.Ytfmefdeldgmhpaa


namespace Go.Proofs.Ytfmefdeldgmhpaa
set_option linter.unusedVariables false
set_option linter.unusedSimpArgs false
set_option linter.defProp false
open Go.RowKit
def avP := And.intro (And.intro (And.intro (And.intro (@rwp.eq_def) (And.intro (@sop.eq_def) (@slotK.eq_def))) (And.intro (And.intro (@gop.eq_def) (@hop.eq_def)) (And.intro (@hopH.eq_def) (@hwp.eq_def)))) (And.intro (And.intro (And.intro (@ldV.eq_def) (@ldK.eq_def)) (And.intro (@ixK.eq_def) (@addOff.eq_def))) (And.intro (And.intro (@exK.eq_def) (@notK.eq_def)) (And.intro (@pickK.eq_def) (@iop2.eq_def))))) (And.intro (And.intro (And.intro (@binK.eq_def) (And.intro (@eqop.eq_def) (@iop.eq_def))) (And.intro (And.intro (@cutK.eq_def) (@lenK.eq_def)) (And.intro (@lenM.eq_def) (@lookK.eq_def)))) (And.intro (And.intro (And.intro (@mpK.eq_def) (@cvK.eq_def)) (And.intro (@mmK.eq_def) (@biK.eq_def))) (And.intro (And.intro (@stK.eq_def) (@apK.eq_def)) (And.intro (And.intro (@apD.eq_def) (@apM.eq_def)) (And.intro (@apS.eq_def) (And.intro (@isMo.eq_1) (@isMo.eq_2)))))))
def avQ := And.intro (And.intro (And.intro (And.intro (And.intro (And.intro (And.intro (And.intro (@inV.eq_1) (@inV.eq_2)) (And.intro (@shT.eq_1) (@shT.eq_2))) (And.intro (And.intro (@unT.eq_1) (@unT.eq_2)) (And.intro (@inQ.eq_1) (@inQ.eq_2)))) (And.intro (And.intro (And.intro (@inQ.eq_3) (@rfQ.eq_1)) (And.intro (@rfQ.eq_2) (@rfQ.eq_3))) (And.intro (And.intro (@rfEnd.eq_1) (@rfEnd.eq_2)) (And.intro (@rfEnd.eq_3) (@rfEnd.eq_4))))) (And.intro (And.intro (And.intro (And.intro (@resOf.eq_1) (@resOf.eq_2)) (And.intro (@pickT.eq_1) (@pickT.eq_2))) (And.intro (And.intro (@setP.eq_1) (@setP.eq_2)) (And.intro (@ydA.eq_1) (@ydA.eq_2)))) (And.intro (And.intro (And.intro (@ydQ.eq_1) (@rowW.eq_1)) (And.intro (@rowW.eq_2) (@vD.eq_1))) (And.intro (And.intro (@vD.eq_2) (@fillV.eq_1)) (And.intro (@fillV.eq_2) (@icells.eq_1)))))) (And.intro (And.intro (And.intro (And.intro (And.intro (@icells.eq_2) (@icells.eq_3)) (And.intro (@tyInt.eq_1) (@keyV.eq_1))) (And.intro (And.intro (@keyV.eq_2) (@keyV.eq_3)) (And.intro (@keyV.eq_4) (@allI.eq_1)))) (And.intro (And.intro (And.intro (@allI.eq_2) (@fitK.eq_1)) (And.intro (@fitK.eq_2) (@fitK.eq_3))) (And.intro (And.intro (@lkM.eq_1) (@lkM.eq_2)) (And.intro (@upM.eq_1) (@upM.eq_2))))) (And.intro (And.intro (And.intro (And.intro (@dlM.eq_1) (@dlM.eq_2)) (And.intro (@kq.eq_1) (@kq.eq_2))) (And.intro (And.intro (@kq.eq_3) (@kq.eq_4)) (And.intro (@kq.eq_5) (@nxt.eq_1)))) (And.intro (And.intro (And.intro (@nxt.eq_2) (@put.eq_1)) (And.intro (@put.eq_2) (@setT.eq_1))) (And.intro (And.intro (@setT.eq_2) (@setB.eq_1)) (And.intro (@setB.eq_2) (And.intro (@delB.eq_1) (@delB.eq_2)))))))) (And.intro (And.intro (And.intro (And.intro (And.intro (And.intro (@lkT_n) (@lkT_c)) (And.intro (@lkB_n) (@lkB_c))) (And.intro (And.intro (@ev.eq_1) (@ev.eq_2)) (And.intro (@ev.eq_3) (@ev.eq_4)))) (And.intro (And.intro (And.intro (@ofC.eq_1) (@ofC.eq_2)) (And.intro (@inT.eq_1) (@inT.eq_2))) (And.intro (And.intro (@ofA.eq_1) (@ofA.eq_2)) (And.intro (@ofRet.eq_1) (@ofRet.eq_2))))) (And.intro (And.intro (And.intro (And.intro (@dV_n) (@dV_c)) (And.intro (@getD_enc) (@toDs_dV))) (And.intro (And.intro (@List.head?_cons.{0}) (@List.length_map.{0,0})) (And.intro (@Option.toArray_some.{0}) (@Option.toArray_none.{0})))) (And.intro (And.intro (And.intro (@Int.toNat_natCast) (@slOf.eq_1)) (And.intro (@slOf.eq_2) (@slOf.eq_3))) (And.intro (And.intro (@TyK.agg.eq_1) (@TyK.agg.eq_2)) (And.intro (@TyK.agg.eq_3) (@vcells.eq_1)))))) (And.intro (And.intro (And.intro (And.intro (And.intro (@vcells.eq_2) (@vcells.eq_3)) (And.intro (@vcells.eq_4) (@vcells.eq_5))) (And.intro (And.intro (@vcells.eq_6) (@vcells.eq_7)) (And.intro (@vcells.eq_8) (@vcells.eq_9)))) (And.intro (And.intro (And.intro (@vcells.eq_10) (@vcells.eq_11)) (And.intro (@vcells.eq_12) (@vcells.eq_13))) (And.intro (And.intro (@vcells.eq_14) (@vcells.eq_15)) (And.intro (@vcells.eq_16) (@splice.eq_1))))) (And.intro (And.intro (And.intro (And.intro (@pickOps.eq_1) (@pickOps.eq_2)) (And.intro (@headF.eq_1) (@headF.eq_2))) (And.intro (And.intro (@restF.eq_1) (@restF.eq_2)) (And.intro (@allF.eq_1) (@allF.eq_2)))) (And.intro (And.intro (And.intro (@zOf.eq_1) (@strip.eq_1)) (And.intro (@strip.eq_2) (@stripP.eq_1))) (And.intro (And.intro (@stripP.eq_2) (@gOf.eq_1)) (And.intro (@allP.eq_1) (And.intro (@allP.eq_2) (@rowV.eq_1))))))))) (And.intro (And.intro (And.intro (And.intro (And.intro (And.intro (And.intro (@rowV.eq_2) (@toDs.eq_1)) (And.intro (@toDs.eq_2) (@toD.eq_1))) (And.intro (And.intro (@toD.eq_2) (@toD.eq_3)) (And.intro (@toA.eq_1) (@toA.eq_2)))) (And.intro (And.intro (And.intro (@toAs.eq_1) (@toAs.eq_2)) (And.intro (@headOps.eq_1) (@headOps.eq_2))) (And.intro (And.intro (@tailOps.eq_1) (@tailOps.eq_2)) (And.intro (@isT.eq_1) (@isT.eq_2))))) (And.intro (And.intro (And.intro (And.intro (@isT.eq_3) (@isT.eq_4)) (And.intro (@isT.eq_5) (@isT.eq_6))) (And.intro (And.intro (@isT.eq_7) (@addN.eq_1)) (And.intro (@addN.eq_2) (@Go.Op.operands.eq_1)))) (And.intro (And.intro (And.intro (@Go.Op.operands.eq_2) (@Go.Op.operands.eq_3)) (And.intro (@Go.Op.operands.eq_4) (@Go.Op.operands.eq_5))) (And.intro (And.intro (@Go.Op.operands.eq_6) (@Go.Op.operands.eq_7)) (And.intro (@Go.Op.operands.eq_8) (@Go.Op.operands.eq_9)))))) (And.intro (And.intro (And.intro (And.intro (And.intro (@Go.Op.operands.eq_10) (@Go.Op.operands.eq_11)) (And.intro (@Go.Op.operands.eq_12) (@Go.Op.operands.eq_13))) (And.intro (And.intro (@Go.Op.operands.eq_14) (@Go.Op.operands.eq_15)) (And.intro (@Go.Op.operands.eq_16) (@Go.Op.operands.eq_17)))) (And.intro (And.intro (And.intro (@Go.Op.operands.eq_18) (@Go.Op.operands.eq_19)) (And.intro (@Go.Op.operands.eq_20) (@Go.Op.operands.eq_21))) (And.intro (And.intro (@Go.Op.operands.eq_22) (@Go.Op.operands.eq_23)) (And.intro (@Go.Op.operands.eq_24) (@Go.Op.operands.eq_25))))) (And.intro (And.intro (And.intro (And.intro (@Go.Op.operands.eq_26) (@Go.Op.operands.eq_27)) (And.intro (@Go.Op.operands.eq_28) (@Go.Op.operands.eq_29))) (And.intro (And.intro (@Go.Op.operands.eq_30) (@Go.Op.operands.eq_31)) (And.intro (@Go.Op.operands.eq_32) (@Go.Op.operands.eq_33)))) (And.intro (And.intro (And.intro (@Go.Op.operands.eq_34) (@Go.Op.operands.eq_35)) (And.intro (@Go.Op.operands.eq_36) (@Go.Op.operands.eq_37))) (And.intro (And.intro (@Go.Op.operands.eq_38) (@Go.Op.operands.eq_39)) (And.intro (@Go.Op.operands.eq_40) (And.intro (@Go.Op.operands.eq_41) (@Go.Op.operands.eq_42)))))))) (And.intro (And.intro (And.intro (And.intro (And.intro (And.intro (@Go.Op.operands.eq_43) (@Go.Call.operands.eq_1)) (And.intro (@List.map_cons.{0,0}) (@List.map_nil.{0,0}))) (And.intro (And.intro (@List.drop_zero.{0}) (@List.drop_succ_cons.{0})) (And.intro (@List.take_succ_cons.{0}) (@List.take_zero.{0})))) (And.intro (And.intro (And.intro (@List.length_cons.{0}) (@List.length_nil.{0})) (And.intro (@List.getElem?_cons_zero.{0}) (@List.getElem?_cons_succ.{0}))) (And.intro (And.intro (@List.getElem?_toArray.{0}) (@Option.bind_some.{0,0})) (And.intro (@Option.map_some.{0,0}) (@Option.map_none.{0,0}))))) (And.intro (And.intro (And.intro (And.intro (@List.append_nil.{0}) (@List.nil_append.{0})) (And.intro (@List.cons_append.{0}) (@and_false))) (And.intro (And.intro (@and_self) (@Nat.zero_add)) (And.intro (@Nat.add_zero) (@Option.getD_some.{0})))) (And.intro (And.intro (And.intro (@Option.getD_none.{0}) (@Option.isSome_some.{0})) (And.intro (@Option.isSome_none.{0}) (@true_and))) (And.intro (And.intro (@and_true) (@true_implies)) (And.intro (@Bool.true_and) (@Bool.false_and)))))) (And.intro (And.intro (And.intro (And.intro (And.intro (@Bool.and_true) (@Bool.and_false)) (And.intro (@Bool.true_or) (@Bool.false_or))) (And.intro (And.intro (@Bool.or_true) (@Bool.or_false)) (And.intro (@zipM.eq_1) (@zipM.eq_2)))) (And.intro (And.intro (And.intro (@zcells.eq_1) (@Go.Value.cells.eq_1)) (And.intro (@Go.Value.cells.eq_2) (@Go.Value.oneCell'.eq_1))) (And.intro (And.intro (@Go.Value.oneCell'.eq_2) (@Go.Value.oneCell'.eq_3)) (And.intro (@List.toList_toArray.{0}) (@Array.toList_append.{0}))))) (And.intro (And.intro (And.intro (And.intro (@Bool.not_not) (@List.cons.injEq.{0})) (And.intro (@false_and) (@Bool.not_true))) (And.intro (And.intro (@Bool.not_false) (@not_false_eq_true)) (And.intro (@imp_self) (@av_bt)))) (And.intro (And.intro (And.intro (@av_bf) (@av_and)) (And.intro (@av_or) (@av_nf))) (And.intro (And.intro (@av_tt) (@av_n1)) (And.intro (@av_n2) (And.intro (@av_t1) (@av_tp)))))))))
end Go.Proofs.Ytfmefdeldgmhpaa

