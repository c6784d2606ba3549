import Derived.Test.YtfmefdeldgmhpaaH1
import Derived.Test.YtfmefdeldgmhpaaH5
import Derived.SizedLaws
namespace Go.Proofs.Ytfmefdeldgmhpaa
set_option linter.unusedSimpArgs false
open Go.ChangeShapes Go.WideShapes Go.ChangeAt Go.RowKit
set_option linter.unusedVariables false

def Opens {α : Type} (P : Program) (t : TypeId) (R : RepT α) : Prop :=
  ∀ {H : Type} {enc : TypeId × Value → H} {W : World} {n : Nat} {cs : List Value} {x : DataW H × List MemPlace}, DataW.trod enc P W 0 (fun _ => true) true n t cs = some x → (∀ k ∈ x.1.weights P t, k ≤ reachBytes) → ∃ y : α, R (Now W) W y cs
section
variable {α β : Type} {P : Program} {t e : TypeId} {sz : Nat} {R : RepT α}
theorem opens_int {k : IntKind} (hu : P.underlying t = some (.int k)) : Opens P t (RI k) := fun h _ => by
  obtain ⟨n, e, _, hw⟩ := DataW.trod_int hu h
  exact ⟨n, e, hw⟩
theorem opens_bool (hu : P.underlying t = some .bool) : Opens P t RB := fun h _ => by
  obtain ⟨b, e, _⟩ := DataW.trod_bool hu h
  exact ⟨b, e⟩
theorem opens_u8 (hu : P.underlying t = some (.int .u8)) : Opens P t RU8 := fun h _ => by
  obtain ⟨n, e, _, hw⟩ := DataW.trod_int hu h
  have hz : 0 ≤ n ∧ n ≤ 255 := by simpa [Lit.wf, IntKind.min, IntKind.max, IntKind.signed, IntKind.bits] using hw
  refine ⟨UInt8.ofNat n.toNat, ?_⟩
  rw [e]
  unfold RU8 byteV
  have : ((UInt8.ofNat n.toNat).toNat : Int) = n := by rw [UInt8.toNat_ofNat']; omega
  rw [this]
theorem opens_str (hu : P.underlying t = some .string) : Opens P t RStr := fun h hw => by
  obtain ⟨s, e, rfl, _⟩ := DataW.trod_string hu h
  have hs : s.data.toList.length ≤ reachBytes := hw _ (by simp [DataW.weights])
  refine ⟨s.data.toList, by rw [e], ?_⟩
  unfold reachBytes at hs
  omega
theorem mapM_get {f : Nat → Option Value} : ∀ {l : List Nat} {cs : List Value}, l.mapM f = some cs → cs.length = l.length ∧ ∀ (j : Nat) (u : Value), cs[j]? = some u → ∃ i : Nat, l[j]? = some i ∧ f i = some u
  | [], cs, h => by
    simp at h
    subst h
    exact ⟨rfl, fun j u h => by simp at h⟩
  | i :: l, cs, h => by
    rw [List.mapM_cons] at h
    cases h1 : f i with
    | none => simp [h1] at h
    | some u =>
      cases h2 : l.mapM f with
      | none => simp [h1, h2] at h
      | some us =>
        simp [h1, h2] at h
        subst h
        obtain ⟨hl, hg⟩ := mapM_get h2
        refine ⟨by simp [hl], fun j v hv => ?_⟩
        cases j with
        | zero => simp at hv; subst hv; exact ⟨i, rfl, h1⟩
        | succ j => simpa using hg j v (by simpa using hv)
theorem cells_get {w : World} {a : Addr} {n : Nat} {cs : List Value} (h : w.cells? 0 a n = some cs) : cs.length = n ∧ ∀ (j : Nat) (u : Value), cs[j]? = some u → w.cell? (a.add j) = some u := by
  unfold World.cells? at h
  rw [if_pos (Nat.zero_le _)] at h
  obtain ⟨hl, hg⟩ := mapM_get h
  refine ⟨by simpa using hl, fun j u hu => ?_⟩
  obtain ⟨i, hi, hf⟩ := hg j u hu
  have : i = j := by
    have hj : j < n := by have := (List.getElem?_eq_some_iff.1 hu).1; rw [hl] at this; simpa using this
    rw [List.getElem?_range hj] at hi
    exact (Option.some.inj hi).symm
  rw [this] at hf
  exact hf
theorem weights_all {H : Type} {d : DataW H} {k : Nat} : ∀ {l : List (DataW H)}, d ∈ l → k ∈ d.weights P e → k ∈ DataW.weightsAll P e l
  | [], h, _ => by cases h
  | x :: l, h, hk => by
    simp only [DataW.weightsAll, List.mem_append]
    rcases List.mem_cons.1 h with rfl | h
    · exact .inl hk
    · exact .inr (weights_all h hk)
theorem pick_list {Q : Nat → α → Prop} : ∀ n, (∀ i, i < n → ∃ y, Q i y) → ∃ l : List α, l.length = n ∧ ∀ i (h : i < l.length), Q i l[i]
  | 0, _ => ⟨[], rfl, fun i h => by cases h⟩
  | n + 1, h => by
    obtain ⟨l, hl, hq⟩ := pick_list n (fun i hi => h i (by omega))
    obtain ⟨y, hy⟩ := h n (by omega)
    refine ⟨l ++ [y], by simp [hl], fun i hi => ?_⟩
    by_cases hi' : i < l.length
    · rw [List.getElem_append_left hi']; exact hq i hi'
    · have : i = l.length := by simp at hi; omega
      subst this
      simp [hl, hy]
theorem opens_slice (g : Good sz R) (ho : Opens P e R) (hu : P.underlying t = some (.slice e)) (hc : P.cellsOf e = sz) (hpos : 0 < sz) (hb : 1 ≤ P.bytesOf e) : Opens P t (RS sz R) := by
  intro H enc W n cs x h hw
  rcases DataW.trod_slice hu h with ⟨rfl, _⟩ | ⟨a, len, cap, elems, rest, m, rfl, rfl, rfl, _, hl, _, hlen, hel, _, _⟩
  · exact ⟨[], none, 0, rfl, Nat.le_refl _, by simp, RRow.nil _⟩
  · simp only [DataW.weights, hu] at hw
    have hsz := hw _ (List.mem_cons_self ..)
    rw [List.length_map, List.length_map] at hsz
    have hbig : elems.length ≤ 140737488351232 := by
      unfold reachBytes at hsz
      have := Nat.mul_le_mul_left (elems.length + rest.length) hb
      omega
    rw [hc] at hel
    by_cases hl0 : len = 0
    · subst hl0
      exact ⟨[], some a, cap, rfl, by simp, by simp, RRow.nil _⟩
    have hs : a.spot = none := by
      have h0 := hel 0 (by omega)
      rw [List.getElem?_eq_getElem (by omega)] at h0
      cases hcs : W.cells? 0 (a.add (0 * sz)) sz with
      | none => rw [hcs] at h0; cases h0
      | some cs =>
        obtain ⟨hl2, hg⟩ := cells_get hcs
        have h9 := World.cell?_spot (hg 0 cs[0] (by simp))
        simpa [Addr.add] using h9
    obtain ⟨b, off, spot⟩ := a
    subst hs
    have key : ∀ i, i < len → ∃ y : α, ∃ cs, Now W b ∧ R (Now W) W y cs ∧ ∀ j u, cs[j]? = some u → W.cell? ⟨b, off + i * sz + j, none⟩ = some u := by
      intro i hi
      have h0 := hel i hi
      have he : elems[i]? = some (getElem elems i (by omega)) := List.getElem?_eq_getElem (by omega)
      rw [he] at h0
      cases hcs : W.cells? 0 (Addr.add ⟨b, off, none⟩ (i * sz)) sz with
      | none => rw [hcs] at h0; cases h0
      | some cs =>
        rw [hcs, Option.bind_some] at h0
        obtain ⟨y, hy⟩ := ho h0 (fun k hk => hw k (by
          refine List.mem_cons_of_mem _ (List.mem_append.2 (.inl ?_))
          exact weights_all (List.mem_map.2 ⟨_, List.getElem_mem (by omega), rfl⟩) hk))
        obtain ⟨hl2, hg⟩ := cells_get hcs
        have hc0 := hg 0 cs[0] (by simp)
        refine ⟨y, cs, ?_, hy, fun j u hu => ?_⟩
        · have := World.block_lt_of_cell? _ _ hc0
          rw [add_plain, add_plain] at this
          exact this
        · have := hg j u hu
          rw [add_plain, add_plain] at this
          exact this
    obtain ⟨l, hll, hq⟩ := pick_list len key
    refine ⟨l, some ⟨b, off, none⟩, cap, by rw [hll], by rw [hll]; exact hl, by rw [hll, ← hlen]; exact hbig, fun i hi => ?_⟩
    obtain ⟨cs, h1, h2, h3⟩ := hq i hi
    exact ⟨b, off, cs, rfl, h1, h2, h3⟩

/-- a struct's fields from the one at offset o on -/
def OpensL {γ : Type} (P : Program) (l : List Field) (o : Nat) (T : RepT γ) : Prop :=
  ∀ {H : Type} {enc : TypeId × Value → H} {W : World} {n : Nat} {cs : List Value} {xs : List (DataW H × List MemPlace)}, xs.length = l.length → (cs.length + o = (l.map fun f => P.cellsOf f.type).foldl (· + ·) o) →
    (∀ (i : Nat) (f : Field), l[i]? = some f → o ≤ f.offset ∧ DataW.trod enc P W 0 (fun _ => true) true n f.type ((cs.drop (f.offset - o)).take (P.cellsOf f.type)) = xs[i]?) →
    (∀ (i : Nat) (f : Field) (x : DataW H × List MemPlace), l[i]? = some f → xs[i]? = some x → ∀ k ∈ x.1.weights P f.type, k ≤ reachBytes) → ∃ y : γ, T (Now W) W y cs
def RNil : RepT Unit := fun _ _ _ cs => cs = []
theorem opensL_nil {o : Nat} : OpensL P [] o RNil := fun hx hl _ _ => by
  simp at hl
  exact ⟨(), hl⟩
theorem foldl_add (l : List Nat) (o : Nat) : l.foldl (· + ·) o = o + l.foldl (· + ·) 0 := by
  induction l generalizing o with
  | nil => simp
  | cons x l ih => rw [List.foldl_cons, List.foldl_cons, ih (o + x), ih (0 + x)]; omega
theorem opensL_cons {f : Field} {l : List Field} {o s1 : Nat} {S : RepT β} (g : Good s1 R) (ho : Opens P f.type R) (hs : P.cellsOf f.type = s1) (hof : f.offset = o) (hall : ∀ f' ∈ l, o + s1 ≤ f'.offset) (hl : OpensL P l (o + s1) S) : OpensL P (f :: l) o (RP R S) := by
  intro H enc W n cs xs hx hlen hel hw
  rw [List.map_cons, List.foldl_cons, foldl_add, hs] at hlen
  match xs, hx with
  | x :: xs, hx =>
    have h0 := (hel 0 f rfl).2
    rw [hof, Nat.sub_self, List.drop_zero, hs] at h0
    obtain ⟨y, hy⟩ := ho h0 (hw 0 f x rfl rfl)
    obtain ⟨z, hz⟩ := hl (cs := cs.drop s1) (xs := xs) (n := n) (enc := enc) (by simpa using hx) (by rw [List.length_drop, foldl_add]; omega) (fun i f' hf => by
      have h1 := hel (i + 1) f' (by simpa using hf)
      have h2 := hall f' (List.mem_of_getElem? hf)
      refine ⟨h2, ?_⟩
      have h3 := h1.2
      rw [List.drop_drop, show s1 + (f'.offset - (o + s1)) = f'.offset - o by omega]
      simpa using h3) (fun i f' x' hf hx' => hw (i + 1) f' x' (by simpa using hf) (by simpa using hx'))
    exact ⟨(y, z), cs.take s1, cs.drop s1, (List.take_append_drop ..).symm, hy, hz⟩
theorem opens_struct {fs : Array Field} {γ : Type} {T : RepT γ} (hu : P.underlying t = some (.struct fs)) (hc : P.cellsOf t = (fs.toList.map fun f => P.cellsOf f.type).foldl (· + ·) 0) (hT : OpensL P fs.toList 0 T) : Opens P t T := by
  intro H enc W n cs x h hw
  obtain ⟨xs, m, rfl, rfl, hl, hlen, hf⟩ := DataW.trod_struct hu h
  refine hT (xs := xs) (n := m) (enc := enc) (by simpa using hlen) (by rw [hl, hc]; rfl) (fun i f hi => ⟨Nat.zero_le _, by simpa using hf i f (by simpa using hi)⟩) (fun i f x hi hx k hk => hw k ?_)
  simp only [DataW.weights, hu]
  exact DataW.weights_mem_each (by rw [List.getElem?_map, hi]; rfl) (by rw [List.getElem?_map, hx]; rfl) k hk
theorem opens_map {γ : Type} {T : RepT γ} {f : α → γ} (h : Opens P t R) (hm : ∀ {F w x cs}, R F w x cs → T F w (f x) cs) : Opens P t T := fun h1 h2 => by
  obtain ⟨y, hy⟩ := h h1 h2
  exact ⟨f y, hm hy⟩
/-- an array's elements -/
def RArr (n : Nat) (R : RepT α) : RepT (List α) := fun F w l cs => l.length = n ∧ CellsL R F w l cs
theorem good_array {n : Nat} (g : Good sz R) : Good (n * sz) (RArr n R) :=
  ⟨fun hF hk _ _ h => ⟨h.1, h.2.keep g hF hk⟩, fun h => by rw [h.2.len g, h.1], fun h => h.2.one g⟩
theorem cellsL_of {F : Nat → Prop} {w : World} (hsz : 0 < sz) : ∀ {l : List α} {cs : List Value}, cs.length = l.length * sz → (∀ i (h : i < l.length), R F w l[i] ((cs.drop (i * sz)).take sz)) → CellsL R F w l cs
  | [], cs, h, _ => by simp at h; exact h
  | x :: l, cs, h, hi => by
    refine ⟨cs.take sz, cs.drop sz, (List.take_append_drop ..).symm, (by have := hi 0 (by simp); rw [Nat.zero_mul, List.drop_zero] at this; exact this), cellsL_of hsz (by rw [List.length_drop, h, List.length_cons, Nat.add_mul]; omega) (fun i hi' => ?_)⟩
    have := hi (i + 1) (by simpa using hi')
    rw [List.drop_drop, show sz + i * sz = (i + 1) * sz by rw [Nat.add_mul]; omega]
    simpa using this
theorem opens_array {n : Nat} (ho : Opens P e R) (hu : P.underlying t = some (.array n e)) (hc : P.cellsOf e = sz) (hpos : 0 < sz) (ht : P.cellsOf t = n * sz) : Opens P t (RArr n R) := by
  intro H enc W fuel cs x h hw
  obtain ⟨xs, m, rfl, rfl, hl, hlen, hf⟩ := DataW.trod_array hu h
  rw [hc] at hf
  have key : ∀ i, i < n → ∃ y : α, R (Now W) W y ((cs.drop (i * sz)).take sz) := fun i hi => by
    have h0 := hf i hi
    rw [List.getElem?_eq_getElem (by omega)] at h0
    refine ho h0 (fun k hk => hw k ?_)
    simp only [DataW.weights, hu]
    exact weights_all (List.mem_map.2 ⟨_, List.getElem_mem (by omega), rfl⟩) hk
  obtain ⟨l, hll, hq⟩ := pick_list n key
  exact ⟨l, hll, cellsL_of hpos (by rw [hl, ht, hll]) (fun i hi => hq i hi)⟩

theorem sized {H : Type} {ts : List TypeId} {ds : List (DataW H)} (h : (DataW.weightsEach P ts ds).all (· ≤ reachBytes) = true) {j : Nat} {t : TypeId} {d : DataW H} (ht : ts[j]? = some t) (hd : ds[j]? = some d) : ∀ k ∈ d.weights P t, k ≤ reachBytes := fun k hk => by
  have := List.all_eq_true.1 h _ (DataW.weights_mem_each ht hd k hk)
  simpa using this
section
variable {H : Type} {enc : TypeId × Value → H} {W : World} {base : Nat} {v : Value} {d : DataW H} {ps : List MemPlace}
theorem open_struct {fs : Array Field} (ho : Opens P t R) (hu : P.underlying t = some (.struct fs)) (hok : Value.okWide P W .any base t v) (h : DataW.Trod enc P W 0 (fun _ => true) true t v d ps) (hw : ∀ k ∈ d.weights P t, k ≤ reachBytes) :
    ∃ x cs, v = .agg cs ∧ R (Now W) W x cs.toList := by
  simp only [Value.okWide, hu] at hok
  obtain ⟨cs, rfl, _⟩ := hok
  obtain ⟨fuel, hf⟩ := h
  obtain ⟨x, hx⟩ := ho hf hw
  exact ⟨x, cs, rfl, hx⟩
theorem open_row (ho : Opens P t (RS sz R)) (hu : P.underlying t = some (.slice e)) (hok : Value.okWide P W .any base t v) (h : DataW.Trod enc P W 0 (fun _ => true) true t v d ps) (hw : ∀ k ∈ d.weights P t, k ≤ reachBytes) :
    ∃ a l cap, v = .slice a l.length cap ∧ l.length ≤ cap ∧ l.length ≤ 140737488351232 ∧ Row sz R W l a := by
  obtain ⟨a0, len, cp, rfl⟩ := okWide_slice hu hok
  obtain ⟨fuel, hf⟩ := h
  obtain ⟨l, a, cap, e, h1, h2, h3⟩ := ho hf hw
  simp [Value.cells] at e
  obtain ⟨rfl, rfl, rfl⟩ := e
  exact ⟨_, l, _, rfl, h1, h2, h3⟩
theorem open_int64 (hu : P.underlying t = some (.int .i64)) (hok : Value.okWide P W .any base t v) (h : DataW.Trod enc P W 0 (fun _ => true) true t v d ps) : ∃ n : Int, v = .int .i64 n ∧ i64R n := by
  obtain ⟨z, rfl, rfl, rfl, wz⟩ := open_int hu hok h
  exact ⟨z, rfl, wf_i64 wz⟩
end
end
end Go.Proofs.Ytfmefdeldgmhpaa

namespace Go.Proofs.Ytfmefdeldgmhpaa
set_option linter.unusedSimpArgs false
open Go.ChangeShapes Go.WideShapes Go.ChangeAt Go.RowKit
set_option linter.unusedVariables false
abbrev ftB (F : Nat → Prop) : Ft := ⟨fun b _ => F b, F⟩
/-- a datum by its data -/
def RE {α : Type} (enc : α → List D) (ok : α → Prop) : RepT α := fun F w x cs => ok x ∧ RDL (ftB F) w (enc x) cs ∧ ∀ u ∈ cs, u.oneCell' = true
section
variable {α β : Type} {P : Program} {t e : TypeId} {sz : Nat} {enc : α → List D} {ok : α → Prop} {enc2 : β → List D} {ok2 : β → Prop} {F : Nat → Prop} {w : World}
theorem good_re (hl : ∀ x, (enc x).length = sz) : Good sz (RE enc ok) :=
  ⟨fun {F F' w w'} hF hk {x cs} h => ⟨h.1, RDL.mono (F := ftB F) (G := ftB F') ⟨fun b o hb => hF b hb, fun b hb => hF b hb⟩ (Kp.of_blocks (F := ftB F) (fun x o hx => hk x hx) (fun x hx => hk x hx)) _ _ h.2.1, h.2.2⟩,
   fun {F w x cs} h => by rw [RDL.len h.2.1, hl], fun {F w x cs} h => h.2.2⟩
theorem ore_int {k : IntKind} (hu : P.underlying t = some (.int k)) : Opens P t (RE (fun n : Int => [.c (.int k n)]) (fun n => (Lit.int k n).wf = true)) :=
  opens_map (f := fun n : Int => n) (opens_int hu) fun {F w x cs} h => ⟨h.2, by rw [h.1]; exact ⟨_, _, rfl, rfl, rfl⟩, by rw [h.1]; simp [Value.oneCell']⟩
theorem ore_bool (hu : P.underlying t = some .bool) : Opens P t (RE (fun b : Bool => [.c (.bool b)]) (fun _ => True)) :=
  opens_map (f := fun b : Bool => b) (opens_bool hu) fun {F w x cs} h => ⟨trivial, by rw [h]; exact ⟨_, _, rfl, rfl, rfl⟩, by rw [h]; simp [Value.oneCell']⟩
theorem ore_str (hu : P.underlying t = some .string) : Opens P t (RE (fun s : List UInt8 => [.c (.string ⟨s.toArray⟩)]) (fun s => s.length ≤ 140737488351232)) :=
  opens_map (f := fun s : List UInt8 => s) (opens_str hu) fun {F w x cs} h => ⟨h.2, by rw [h.1]; exact ⟨_, _, rfl, rfl, rfl⟩, by rw [h.1]; simp [Value.oneCell']⟩
theorem rep_re {p : α × β} {cs : List Value} (h : RP (RE enc ok) (RE enc2 ok2) F w p cs) : RE (fun p : α × β => enc p.1 ++ enc2 p.2) (fun p => ok p.1 ∧ ok2 p.2) F w p cs := by
  obtain ⟨c1, c2, rfl, h1, h2⟩ := h
  refine ⟨⟨h1.1, h2.1⟩, RDL.append h1.2.1 h2.2.1, fun u hu => ?_⟩
  rcases List.mem_append.1 hu with hu | hu
  · exact h1.2.2 u hu
  · exact h2.2.2 u hu
/-- a struct's fields from the one at offset o on, as data -/
def OpensE {γ : Type} (P : Program) (l : List Field) (o : Nat) (enc : γ → List D) (ok : γ → Prop) : Prop := OpensL P l o (RE enc ok)
theorem opensL_map {γ δ : Type} {l : List Field} {o : Nat} {T : RepT γ} {U : RepT δ} {f : γ → δ} (h : OpensL P l o T) (hm : ∀ {F w x cs}, T F w x cs → U F w (f x) cs) : OpensL P l o U := fun h1 h2 h3 h4 => by
  obtain ⟨y, hy⟩ := h h1 h2 h3 h4
  exact ⟨f y, hm hy⟩
theorem oreL_nil {o : Nat} : OpensL P [] o (RE (fun _ : Unit => []) (fun _ => True)) :=
  opensL_map (f := fun u : Unit => u) opensL_nil fun {F w x cs} h => ⟨trivial, h, by rw [h]; simp⟩
theorem oreL_cons {f : Field} {l : List Field} {o s1 : Nat} (hl1 : ∀ x, (enc x).length = s1) (ho : Opens P f.type (RE enc ok)) (hs : P.cellsOf f.type = s1) (hof : f.offset = o) (hall : ∀ f' ∈ l, o + s1 ≤ f'.offset) (hl : OpensL P l (o + s1) (RE enc2 ok2)) :
    OpensL P (f :: l) o (RE (fun p : α × β => enc p.1 ++ enc2 p.2) (fun p => ok p.1 ∧ ok2 p.2)) :=
  opensL_map (f := fun p : α × β => p) (opensL_cons (good_re hl1) ho hs hof hall hl) fun {F w x cs} h => rep_re h
/-- a field of one cell -/
theorem oreL_1 {f : Field} {l : List Field} {o : Nat} (ho : Opens P f.type (RE enc ok)) (hl1 : ∀ x, (enc x).length = 1) (hs : P.cellsOf f.type = 1) (hof : f.offset = o) (hall : ∀ f' ∈ l, o + 1 ≤ f'.offset) (hl : OpensL P l (o + 1) (RE enc2 ok2)) :
    OpensL P (f :: l) o (RE (fun p : α × β => enc p.1 ++ enc2 p.2) (fun p => ok p.1 ∧ ok2 p.2)) := oreL_cons hl1 ho hs hof hall hl
theorem ore_map {f : α → β} (h : Opens P t (RE enc ok)) (he : ∀ x, enc2 (f x) = enc x) (hok : ∀ x, ok x → ok2 (f x)) : Opens P t (RE enc2 ok2) :=
  opens_map (f := f) h fun {F w x cs} h => ⟨hok _ h.1, by rw [he]; exact h.2.1, h.2.2⟩
theorem rr_of {l : List α} {a : Option Addr} (hl : ∀ x, (enc x).length = sz) (h : RRow sz (RE enc ok) F w l a) : RR (ftB F) w sz a (l.map enc) 0 ∧ ∀ x ∈ l, ok x := by
  have key : ∀ (m : List α) (n : Nat), (∀ i (hi : i < m.length), ∃ b off cs, a = some ⟨b, off, none⟩ ∧ F b ∧ RE enc ok F w m[i] cs ∧ ∀ j u, cs[j]? = some u → w.cell? ⟨b, off + (n + i) * sz + j, none⟩ = some u) → RR (ftB F) w sz a (m.map enc) (n * sz) ∧ ∀ x ∈ m, ok x := by
    intro m
    induction m with
    | nil => intro n _; exact ⟨trivial, by simp⟩
    | cons x m ih =>
      intro n h
      obtain ⟨b, off, cs, h1, h2, h3, h4⟩ := h 0 (by simp)
      have h3' : RE enc ok F w x cs := h3
      obtain ⟨k1, k2⟩ := ih (n + 1) (fun i hi => by
        obtain ⟨b', off', cs', g1, g2, g3, g4⟩ := h (i + 1) (by simpa using hi)
        exact ⟨b', off', cs', g1, g2, g3, fun j u hj => by have := g4 j u hj; rw [show n + 1 + i = n + (i + 1) by omega]; exact this⟩)
      refine ⟨⟨⟨b, off, cs, h1, h3'.2.1, by rw [RDL.len h3'.2.1, hl], h3'.2.2, fun j u hj => ⟨h2, ?_⟩⟩, ?_⟩, ?_⟩
      · have := h4 j u hj
        simpa using this
      · rw [Nat.add_mul, Nat.one_mul] at k1
        exact k1
      · intro y hy
        rcases List.mem_cons.1 hy with rfl | hy
        · exact h3'.1
        · exact k2 y hy
  have := key l 0 (fun i hi => by
    obtain ⟨b, off, cs, h1, h2, h3, h4⟩ := h i hi
    exact ⟨b, off, cs, h1, h2, h3, fun j u hj => by rw [Nat.zero_add]; exact h4 j u hj⟩)
  simpa using this
theorem ore_slice (d0 : List D) (hl : ∀ x, (enc x).length = sz) (ho : Opens P e (RE enc ok)) (hu : P.underlying t = some (.slice e)) (hc : P.cellsOf e = sz) (hpos : 0 < sz) (hb : 1 ≤ P.bytesOf e) :
    Opens P t (RE (fun l : List α => [.sl sz d0 (l.map enc)]) (fun l => l.length ≤ 140737488351232 ∧ ∀ x ∈ l, ok x)) :=
  opens_map (f := fun l : List α => l) (opens_slice (good_re hl) ho hu hc hpos hb) fun {F w x cs} h => by
    obtain ⟨a, cap, rfl, h1, h2, h3⟩ := h
    obtain ⟨k1, k2⟩ := rr_of hl h3
    refine ⟨⟨h2, k2⟩, ⟨_, _, rfl, ⟨a, cap, by rw [List.length_map], by simpa using h1, by simpa using h2, k1⟩, rfl⟩, by simp [Value.oneCell']⟩
theorem rdl_cells {n : Nat} : ∀ {l : List α} {cs : List Value}, CellsL (RE enc ok) F w l cs → RE (fun l : List α => (l.map enc).flatten) (fun l => ∀ x ∈ l, ok x) F w l cs
  | [], cs, h => by cases h; exact ⟨by simp, rfl, by simp⟩
  | x :: l, cs, h => by
    obtain ⟨c, ys, rfl, h1, h2⟩ := h
    obtain ⟨k1, k2, k3⟩ := rdl_cells (n := n) h2
    refine ⟨fun y hy => ?_, ?_, fun u hu => ?_⟩
    · rcases List.mem_cons.1 hy with rfl | hy
      · exact h1.1
      · exact k1 y hy
    · show RDL _ _ (enc x ++ (l.map enc).flatten) _
      exact RDL.append h1.2.1 k2
    · rcases List.mem_append.1 hu with hu | hu
      · exact h1.2.2 u hu
      · exact k3 u hu
theorem ore_array {n : Nat} (ho : Opens P e (RE enc ok)) (hu : P.underlying t = some (.array n e)) (hc : P.cellsOf e = sz) (hpos : 0 < sz) (ht : P.cellsOf t = n * sz) :
    Opens P t (RE (fun l : List α => (l.map enc).flatten) (fun l => l.length = n ∧ ∀ x ∈ l, ok x)) :=
  opens_map (f := fun l : List α => l) (opens_array ho hu hc hpos ht) fun {F w x cs} h => by
    obtain ⟨k1, k2, k3⟩ := rdl_cells (n := n) h.2
    exact ⟨⟨h.1, k1⟩, k2, k3⟩
/-- as a law's arguments -/
abbrev ftN (w : World) : Ft := ftB (Now w)
theorem ftN_lt (w : World) : (ftN w).lt w := ⟨fun _ _ h => h, fun _ h => h⟩
variable {H : Type} {en : TypeId × Value → H} {W : World} {base : Nat} {v : Value} {d : DataW H} {ps : List MemPlace}
theorem arg_int {k : IntKind} (hu : P.underlying t = some (.int k)) (hok : Value.okWide P W .any base t v) (h : DataW.Trod en P W 0 (fun _ => true) true t v d ps) : ∃ n : Int, (Lit.int k n).wf = true ∧ RA (ftN W) W (.one (.c (.int k n))) v := by
  obtain ⟨z, rfl, rfl, rfl, wz⟩ := open_int hu hok h
  exact ⟨z, wz, rfl⟩
theorem arg_bool (hu : P.underlying t = some .bool) (hok : Value.okWide P W .any base t v) (h : DataW.Trod en P W 0 (fun _ => true) true t v d ps) : ∃ b : Bool, RA (ftN W) W (.one (.c (.bool b))) v := by
  obtain ⟨z, rfl, rfl, rfl⟩ := open_bool hu hok h
  exact ⟨z, rfl⟩
theorem arg_row {dd0 : List D} {ok' : List α → Prop} (ho : Opens P t (RE (fun l : List α => [.sl sz dd0 (l.map enc)]) ok')) (hu : P.underlying t = some (.slice e)) (hok : Value.okWide P W .any base t v) (h : DataW.Trod en P W 0 (fun _ => true) true t v d ps) (hw : ∀ k ∈ d.weights P t, k ≤ reachBytes) :
    ∃ l, ok' l ∧ RA (ftN W) W (.one (.sl sz dd0 (l.map enc))) v := by
  obtain ⟨a0, len, cp, rfl⟩ := okWide_slice hu hok
  obtain ⟨fuel, hf⟩ := h
  obtain ⟨l, h1, h2, h3⟩ := ho hf hw
  obtain ⟨u, r, e1, h4, h5⟩ := h2
  simp [Value.cells] at e1
  exact ⟨l, h1, by rw [e1.1]; exact h4⟩
theorem arg_struct {fs : Array Field} (ho : Opens P t (RE enc ok)) (hu : P.underlying t = some (.struct fs)) (hok : Value.okWide P W .any base t v) (h : DataW.Trod en P W 0 (fun _ => true) true t v d ps) (hw : ∀ k ∈ d.weights P t, k ≤ reachBytes) :
    ∃ x, ok x ∧ RA (ftN W) W (.agg (enc x)) v := by
  obtain ⟨x, cs, rfl, h1, h2, h3⟩ := open_struct ho hu hok h hw
  exact ⟨x, h1, cs.toList, by simp, h2, h3⟩
end
end Go.Proofs.Ytfmefdeldgmhpaa

namespace Go.Proofs.Ytfmefdeldgmhpaa
set_option linter.unusedSimpArgs false
set_option linter.unusedVariables false
open Go.ChangeShapes Go.WideShapes Go.ChangeAt Go.RowKit
structure OkE (x : Ent) : Prop where
  no : i64 x.no
  kind : i64 x.kind
  a : i64 x.a
  b : i64 x.b
  frm : i64 x.frm
  til : i64 x.til
  known : i64 x.known
  gone : i64 x.gone
theorem opens_ent : Opens Try.prog 39 (RE entD OkE) :=
  ore_map (f := fun x : Int × Int × Int × Int × Int × Int × Int × Int × Unit => (⟨x.1, x.2.1, x.2.2.1, x.2.2.2.1, x.2.2.2.2.1, x.2.2.2.2.2.1, x.2.2.2.2.2.2.1, x.2.2.2.2.2.2.2.1⟩ : Ent))
    (opens_struct Try.underlying39 (by kernel_rfl)
      (oreL_1 (ore_int Try.underlying3) (by intro x; rfl) (by kernel_rfl) rfl (by simp) (oreL_1 (ore_int Try.underlying3) (by intro x; rfl) (by kernel_rfl) rfl (by simp)
      (oreL_1 (ore_int Try.underlying3) (by intro x; rfl) (by kernel_rfl) rfl (by simp) (oreL_1 (ore_int Try.underlying3) (by intro x; rfl) (by kernel_rfl) rfl (by simp)
      (oreL_1 (ore_int Try.underlying3) (by intro x; rfl) (by kernel_rfl) rfl (by simp) (oreL_1 (ore_int Try.underlying3) (by intro x; rfl) (by kernel_rfl) rfl (by simp)
      (oreL_1 (ore_int Try.underlying3) (by intro x; rfl) (by kernel_rfl) rfl (by simp) (oreL_1 (ore_int Try.underlying3) (by intro x; rfl) (by kernel_rfl) rfl (by simp) oreL_nil)))))))))
    (by intro x; rfl) (by rintro x ⟨h1, h2, h3, h4, h5, h6, h7, h8, _⟩; exact ⟨wf_i64 h1, wf_i64 h2, wf_i64 h3, wf_i64 h4, wf_i64 h5, wf_i64 h6, wf_i64 h7, wf_i64 h8⟩)
theorem opens_ents : Opens Try.prog 22 (RE (fun l : List Ent => [.sl 8 (entD default) (l.map entD)]) (fun l => l.length ≤ 140737488351232 ∧ ∀ x ∈ l, OkE x)) :=
  ore_slice (sz := 8) (entD default) (by intro x; rfl) opens_ent Try.underlying22 (by kernel_rfl) (by decide) (Nat.le_of_ble_eq_true (by kernel_rfl))
theorem okE_kind {l : List Ent} (h : ∀ x ∈ l, OkE x) : ∀ k, i64 (l.getD k default).kind := kindsAt fun x hx => (h x hx).kind
end Go.Proofs.Ytfmefdeldgmhpaa

namespace Go.Proofs.Ytfmefdeldgmhpaa
set_option linter.unusedSimpArgs false
set_option linter.unusedVariables false
open Go.RowKit
set_option maxRecDepth 100000
set_option maxHeartbeats 4000000
theorem law3_spec (l : List Ent) (person day time : Int) (ho : l.length ≤ 140737488351232 ∧ ∀ x ∈ l, OkE x) : Spec Try.prog 3 [aEs l, aI person, aI day, aI time] (.r1 (aB true)) := by
  obtain ⟨hl, hk'⟩ := ho
  have hk := okE_kind hk'
  refine spec_of T_ok Try.func3 (by dsimp only [Try.f3]) rfl rfl (by simp) fun w F => ?_
  have ha := agents_len l person day time
  repeat' (first
    | (with_reducible refine aw_seq ?_)
    | ((with_reducible refine twoG_intro ?_ ?_) <;> intro hTw <;> first | (exact Bool.noConfusion hTw) | ((try simp only [hTw, Bool.not_true, Bool.not_false, Bool.true_and, Bool.false_and, Bool.and_true, Bool.and_false, Bool.true_or, Bool.false_or, Bool.or_true, Bool.or_false]); (first | (guard_hyp hTw : true = true; clear hTw) | (guard_hyp hTw : false = false; clear hTw) | (revert hTw; intro _))))
    | ((with_reducible refine two_intro ?_ ?_) <;> intro hTw <;> first | (exact Bool.noConfusion hTw) | ((first | (guard_hyp hTw : true = true; clear hTw) | (guard_hyp hTw : false = false; clear hTw) | (revert hTw; intro _))))
    | ((with_reducible refine And.intro ?_ ?_); (focus (first | exact eqHome | omega | rfl | decide | grind)))
    | (with_reducible refine aw_block ?_)
    | (with_reducible refine aw_scope ?_)
    | ((first
        | ((with_reducible refine aw_regionA T_ok ?_ ?_); (focus kernel_rfl))
        | ((with_reducible refine aw_drawnA T_ok ?_ ?_ ?_ ?_); (focus kernel_rfl); (focus kernel_rfl); (focus kernel_rfl))
        | ((with_reducible refine callK_intro (hsane_spec) (by with_unfolding_all rfl) ?_ ?_); (focus kernel_rfl))
        | ((with_reducible refine callI_spec (hsane_spec) (by with_unfolding_all rfl) ?_ ?_ ?_); (focus kernel_rfl); (focus kernel_rfl))
        | ((with_reducible refine callK_intro (few_spec l hl) (by with_unfolding_all rfl) ?_ ?_); (focus kernel_rfl))
        | ((with_reducible refine callI_spec (few_spec l hl) (by with_unfolding_all rfl) ?_ ?_ ?_); (focus kernel_rfl); (focus kernel_rfl))
        | ((with_reducible refine callK_intro (hwhere_spec l person day time hl hk) (by with_unfolding_all rfl) ?_ ?_); (focus kernel_rfl))
        | ((with_reducible refine callI_spec (hwhere_spec l person day time hl hk) (by with_unfolding_all rfl) ?_ ?_ ?_); (focus kernel_rfl); (focus kernel_rfl))
        | ((with_reducible refine callK_intro (qwhere_spec l person day time hl) (by with_unfolding_all rfl) ?_ ?_); (focus kernel_rfl))
        | ((with_reducible refine callI_spec (qwhere_spec l person day time hl) (by with_unfolding_all rfl) ?_ ?_ ?_); (focus kernel_rfl); (focus kernel_rfl))
        | ((with_reducible refine callK_intro (hagents_spec l person day time hl hk) (by with_unfolding_all rfl) ?_ ?_); (focus kernel_rfl))
        | ((with_reducible refine callI_spec (hagents_spec l person day time hl hk) (by with_unfolding_all rfl) ?_ ?_ ?_); (focus kernel_rfl); (focus kernel_rfl))
        | ((with_reducible refine callK_intro (qagents_spec l person day time hl) (by with_unfolding_all rfl) ?_ ?_); (focus kernel_rfl))
        | ((with_reducible refine callI_spec (qagents_spec l person day time hl) (by with_unfolding_all rfl) ?_ ?_ ?_); (focus kernel_rfl); (focus kernel_rfl))
        | ((with_reducible refine callK_intro (sameInts_spec (agentsL l person day time) (agentsL l person day time) (by omega)) (by with_unfolding_all rfl) ?_ ?_); (focus kernel_rfl))
        | ((with_reducible refine callI_spec (sameInts_spec (agentsL l person day time) (agentsL l person day time) (by omega)) (by with_unfolding_all rfl) ?_ ?_ ?_); (focus kernel_rfl); (focus kernel_rfl))
        | (with_reducible refine aw_label ?_)
        | ((with_reducible refine aw_rfM ?_ ?_); (focus kernel_rfl))
        | (with_reducible refine aw_skip ?_)
        | (with_reducible refine aw_exit ?_)
        | ((with_reducible refine aw_condM ?_ ?_); (focus kernel_rfl))
        | (with_reducible refine aw_ret ?_)
      ); simp only [↓rwp.eq_def, ↓sop.eq_def, ↓slotK.eq_def, inV, shT, unT, inQ, rfQ, rfEnd, resOf, pickT, setP, ydA, ydQ, rowW, vD, fillV,  ↓gop.eq_def, ↓hop.eq_def, ↓hopH.eq_def, ↓hwp.eq_def, ↓ldV.eq_def, ↓ldK.eq_def, ↓ixK.eq_def, ↓addOff.eq_def, ↓exK.eq_def, ↓notK.eq_def, ↓pickK.eq_def, ↓iop2.eq_def, ↓binK.eq_def, ↓eqop.eq_def, icells, ↓iop.eq_def, ↓cutK.eq_def, ↓lenK.eq_def, ↓lenM.eq_def, tyInt, ↓lookK.eq_def, ↓mpK.eq_def, keyV, allI, fitK, lkM, upM, dlM, kq, ↓cvK.eq_def, ↓mmK.eq_def, ↓biK.eq_def, ↓stK.eq_def, ↓apK.eq_def, ↓apD.eq_def, ↓apS.eq_def, nxt, put, setT, setB, delB, lkT_n, lkT_c, lkB_n, lkB_c, ev, ofC, inT, ofA, ofRet, dV_n, dV_c, getD_enc, toDs_dV, List.head?_cons, List.length_map, Option.toArray_some, Option.toArray_none, Int.toNat_natCast, slOf, TyK.agg, vcells, splice, strip, stripP, gOf, allP, rowV, toDs, toD, toA, toAs, headOps, tailOps, isT, addN, Op.operands, Call.operands, List.map_cons, List.map_nil, List.drop_zero, List.drop_succ_cons, List.take_succ_cons, List.take_zero, List.length_cons, List.length_nil, List.getElem?_cons_zero, List.getElem?_cons_succ, List.getElem?_toArray, Option.bind_some, Option.map_some, Option.map_none, List.append_nil, List.nil_append, List.cons_append, if_true, if_false, reduceIte, Nat.reduceEqDiff, Nat.reduceAdd, Nat.reduceSub, Int.reduceToNat, Nat.reduceLeDiff, Nat.reduceLT, and_false, and_self, Nat.zero_add, Nat.add_zero, reduceCtorEq, Option.getD_some, Option.getD_none, Option.isSome_some, Option.isSome_none, forall_const, true_and, and_true, true_implies, Bool.true_and, Bool.false_and, Bool.and_true, Bool.and_false, Bool.true_or, Bool.false_or, Bool.or_true, Bool.or_false, beq_self_eq_true, zipM, zcells, Value.cells, Value.oneCell', List.toList_toArray, Array.toList_append, Bool.not_not, List.cons.injEq, Int.reduceEq, eq_self, false_and, Bool.not_true, Bool.not_false, ne_eq, not_false_eq_true, imp_self, implies_true, av_bt, av_bf, av_and, av_or, av_nf, av_tt, av_n1, av_n2, av_t1, av_tp, retQ, retL, resV, RetV, RetOk, SubL, entD_len, entD_take, entD_hd, entD_ln, entD_ic, entD_d1, entD_d2, entD_d3, entD_d4, entD_d5, entD_d6, entD_d7, homD_len, homD_take, homD_hd, homD_ln, homD_ic, homD_d1, homD_d2, intD_len, intD_take, intD_hd, intD_ln, intD_ic, ty_39, ty_3, ty_22, ty_30, ty_4, ty_26]; try simp (disch := omega) only [av_w, av_t1, av_tp, Int.toNat_natCast]))
  all_goals first | exact Sub.refl _ | exact Sub.of_eq (congrArg aB (by simp))
end Go.Proofs.Ytfmefdeldgmhpaa

namespace Go.Proofs.Ytfmefdeldgmhpaa
set_option linter.unusedSimpArgs false
set_option linter.unusedVariables false
theorem Try.own : ownKnob Try.prog.godebug = none := by kernel_rfl
theorem Try.laidOut : laidOutB Try.prog = true := by kernel_rfl
end Go.Proofs.Ytfmefdeldgmhpaa

namespace Go.Proofs.Ytfmefdeldgmhpaa
set_option linter.unusedSimpArgs false
set_option linter.unusedVariables false
open Go.RowKit
theorem ltd {k n : Nat} (h : k < n) : decide ((k : Int) < (n : Int)) = true := decide_eq_true (by omega)
theorem ged {k n : Nat} (h : n ≤ k) : decide ((k : Int) < (n : Int)) = false := decide_eq_false (by omega)
theorem snocE (es : List Ent) (y : Ent) : es.map entD ++ [entD y] = (es ++ [y]).map entD := by simp
set_option maxRecDepth 100000
set_option maxHeartbeats 4000000
theorem take_filter_succ (l : List Ent) (q : Ent → Bool) (k : Nat) (h : k < l.length) : (l.take (k + 1)).filter q = (l.take k).filter q ++ (if q (l.getD k default) = true then [l.getD k default] else []) := by
  rw [List.take_succ_eq_append_getElem h, List.filter_append]
  have : l.getD k default = l[k] := by simp [List.getD, h]
  rw [this]
  congr 1
  simp only [List.filter_cons, List.filter_nil]
theorem take_filter_len (l : List Ent) (q : Ent → Bool) (k : Nat) : ((l.take k).filter q).length ≤ k := Nat.le_trans (List.length_filter_le _ _) (List.length_take_le _ _)
theorem agentsL_len (l : List Ent) (person day time : Int) (h : errO l person day time = 0) : (agentsL l person day time).length ≤ l.length + 1 := by
  have h2 := stand_len l day time
  have h3 := askedL_len (standE l day time) person
  rw [agentsL, if_pos h]
  omega
theorem law5_spec (l : List Ent) (person day time : Int) (ho : l.length ≤ 140737488351232 ∧ ∀ x ∈ l, OkE x) : Spec Try.prog 5 [aEs l, aI person, aI day, aI time] (.r1 (aB true)) := by
  obtain ⟨hl, hk'⟩ := ho
  have hk := okE_kind hk'
  refine spec_of T_ok Try.func5 (by dsimp only [Try.f5]) rfl rfl (by simp) fun w F => ?_
  cases hv : validL l person day time with
  | false =>
    repeat' (first
      | (with_reducible refine aw_seq ?_)
      | ((with_reducible refine twoG_intro ?_ ?_) <;> intro hTw <;> first | (exact Bool.noConfusion hTw) | ((try simp only [hTw, Bool.not_true, Bool.not_false, Bool.true_and, Bool.false_and, Bool.and_true, Bool.and_false, Bool.true_or, Bool.false_or, Bool.or_true, Bool.or_false]); (first | (guard_hyp hTw : true = true; clear hTw) | (guard_hyp hTw : false = false; clear hTw) | (revert hTw; intro _))))
      | ((with_reducible refine two_intro ?_ ?_) <;> intro hTw <;> first | (exact Bool.noConfusion hTw) | ((first | (guard_hyp hTw : true = true; clear hTw) | (guard_hyp hTw : false = false; clear hTw) | (revert hTw; intro _))))
      | ((with_reducible refine And.intro ?_ ?_); (focus (first | omega | rfl | decide | grind)))
      | (with_reducible refine aw_block ?_)
      | (with_reducible refine aw_scope ?_)
      | ((first
          | ((with_reducible refine aw_regionA T_ok ?_ ?_); (focus kernel_rfl))
          | ((with_reducible refine aw_drawnA T_ok ?_ ?_ ?_ ?_); (focus kernel_rfl); (focus kernel_rfl); (focus kernel_rfl))
          | ((with_reducible refine callK_intro (hsane_spec) (by with_unfolding_all rfl) ?_ ?_); (focus kernel_rfl))
          | ((with_reducible refine callI_spec (hsane_spec) (by with_unfolding_all rfl) ?_ ?_ ?_); (focus kernel_rfl); (focus kernel_rfl))
          | ((with_reducible refine callK_intro (hvalid_spec l person day time hl) (by with_unfolding_all rfl) ?_ ?_); (focus kernel_rfl))
          | ((with_reducible refine callI_spec (hvalid_spec l person day time hl) (by with_unfolding_all rfl) ?_ ?_ ?_); (focus kernel_rfl); (focus kernel_rfl))
          | (with_reducible refine aw_label ?_)
          | ((with_reducible refine aw_rfM ?_ ?_); (focus kernel_rfl))
          | (with_reducible refine aw_skip ?_)
          | (with_reducible refine aw_exit ?_)
          | ((with_reducible refine aw_condM ?_ ?_); (focus kernel_rfl))
          | (with_reducible refine aw_ret ?_)
        ); simp only [↓rwp.eq_def, ↓sop.eq_def, ↓slotK.eq_def, inV, shT, unT, inQ, rfQ, rfEnd, resOf, pickT, setP, ydA, ydQ, rowW, vD, fillV,  ↓gop.eq_def, ↓hop.eq_def, ↓hopH.eq_def, ↓hwp.eq_def, ↓ldV.eq_def, ↓ldK.eq_def, ↓ixK.eq_def, ↓addOff.eq_def, ↓exK.eq_def, ↓notK.eq_def, ↓pickK.eq_def, ↓iop2.eq_def, ↓binK.eq_def, ↓eqop.eq_def, icells, ↓iop.eq_def, ↓cutK.eq_def, ↓lenK.eq_def, ↓lenM.eq_def, tyInt, ↓lookK.eq_def, ↓mpK.eq_def, keyV, allI, fitK, lkM, upM, dlM, kq, ↓cvK.eq_def, ↓mmK.eq_def, ↓biK.eq_def, ↓stK.eq_def, ↓apK.eq_def, ↓apD.eq_def, ↓apS.eq_def, nxt, put, setT, setB, delB, lkT_n, lkT_c, lkB_n, lkB_c, ev, ofC, inT, ofA, ofRet, dV_n, dV_c, getD_enc, toDs_dV, List.head?_cons, List.length_map, Option.toArray_some, Option.toArray_none, Int.toNat_natCast, slOf, TyK.agg, vcells, splice, strip, stripP, gOf, allP, rowV, toDs, toD, toA, toAs, headOps, tailOps, isT, addN, Op.operands, Call.operands, List.map_cons, List.map_nil, List.drop_zero, List.drop_succ_cons, List.take_succ_cons, List.take_zero, List.length_cons, List.length_nil, List.getElem?_cons_zero, List.getElem?_cons_succ, List.getElem?_toArray, Option.bind_some, Option.map_some, Option.map_none, List.append_nil, List.nil_append, List.cons_append, if_true, if_false, reduceIte, Nat.reduceEqDiff, Nat.reduceAdd, Nat.reduceSub, Int.reduceToNat, Nat.reduceLeDiff, Nat.reduceLT, and_false, and_self, Nat.zero_add, Nat.add_zero, reduceCtorEq, Option.getD_some, Option.getD_none, Option.isSome_some, Option.isSome_none, forall_const, true_and, and_true, true_implies, Bool.true_and, Bool.false_and, Bool.and_true, Bool.and_false, Bool.true_or, Bool.false_or, Bool.or_true, Bool.or_false, beq_self_eq_true, zipM, zcells, Value.cells, Value.oneCell', List.toList_toArray, Array.toList_append, Bool.not_not, List.cons.injEq, Int.reduceEq, eq_self, false_and, Bool.not_true, Bool.not_false, ne_eq, not_false_eq_true, imp_self, implies_true, av_bt, av_bf, av_and, av_or, av_nf, av_tt, av_n1, av_n2, av_t1, av_tp, retQ, retL, resV, RetV, RetOk, SubL, snocE, entD_len, entD_take, entD_hd, entD_ln, entD_ic, entD_d1, entD_d2, entD_d3, entD_d4, entD_d5, entD_d6, entD_d7, homD_len, homD_take, homD_hd, homD_ln, homD_ic, homD_d1, homD_d2, intD_len, intD_take, intD_hd, intD_ln, intD_ic, ty_39, ty_3, ty_22, ty_30, ty_4, ty_26, hv]; try simp (disch := omega) only [av_w, av_t1, av_tp, Int.toNat_natCast]))
    exact Sub.refl _
  | true =>
    have hf := fineL_of hv
    have hE := hf.errO
    have h24 := hf.few
    have hlen := agentsL_len l person day time hE
    have hA := hagents_spec l person day time hl hk
    rw [hE] at hA
    obtain ⟨ps, hps⟩ : ∃ ps, ps = agentsL l person day time := ⟨_, rfl⟩
    rw [← hps] at hA hlen
    repeat' (first
      | (with_reducible refine aw_seq ?_)
      | ((with_reducible refine twoG_intro ?_ ?_) <;> intro hTw <;> first | (exact Bool.noConfusion hTw) | ((try simp only [hTw, Bool.not_true, Bool.not_false, Bool.true_and, Bool.false_and, Bool.and_true, Bool.and_false, Bool.true_or, Bool.false_or, Bool.or_true, Bool.or_false]); (first | (guard_hyp hTw : true = true; clear hTw) | (guard_hyp hTw : false = false; clear hTw) | (revert hTw; intro _))))
      | ((with_reducible refine two_intro ?_ ?_) <;> intro hTw <;> first | (exact Bool.noConfusion hTw) | ((first | (guard_hyp hTw : true = true; clear hTw) | (guard_hyp hTw : false = false; clear hTw) | (revert hTw; intro _))))
      | ((with_reducible refine And.intro ?_ ?_); (focus (first | omega | rfl | decide | grind)))
      | (with_reducible refine aw_block ?_)
      | (with_reducible refine aw_scope ?_)
      | ((first
          | ((with_reducible refine aw_regionA T_ok ?_ ?_); (focus kernel_rfl))
          | ((with_reducible refine aw_drawnA T_ok ?_ ?_ ?_ ?_); (focus kernel_rfl); (focus kernel_rfl); (focus kernel_rfl))
          | ((with_reducible refine callK_intro (hsane_spec) (by with_unfolding_all rfl) ?_ ?_); (focus kernel_rfl))
          | ((with_reducible refine callI_spec (hsane_spec) (by with_unfolding_all rfl) ?_ ?_ ?_); (focus kernel_rfl); (focus kernel_rfl))
          | ((with_reducible refine callK_intro (hvalid_spec l person day time hl) (by with_unfolding_all rfl) ?_ ?_); (focus kernel_rfl))
          | ((with_reducible refine callI_spec (hvalid_spec l person day time hl) (by with_unfolding_all rfl) ?_ ?_ ?_); (focus kernel_rfl); (focus kernel_rfl))
          | ((with_reducible refine callK_intro (hA) (by with_unfolding_all rfl) ?_ ?_); (focus kernel_rfl))
          | ((with_reducible refine callI_spec (hA) (by with_unfolding_all rfl) ?_ ?_ ?_); (focus kernel_rfl); (focus kernel_rfl))
          | (with_reducible refine aw_label ?_)
          | ((with_reducible refine aw_rfM ?_ ?_); (focus kernel_rfl))
          | (with_reducible refine aw_skip ?_)
          | (with_reducible refine aw_exit ?_)
          | ((with_reducible refine aw_condM ?_ ?_); (focus kernel_rfl))
          | (with_reducible refine aw_ret ?_)
        ); simp only [↓rwp.eq_def, ↓sop.eq_def, ↓slotK.eq_def, inV, shT, unT, inQ, rfQ, rfEnd, resOf, pickT, setP, ydA, ydQ, rowW, vD, fillV,  ↓gop.eq_def, ↓hop.eq_def, ↓hopH.eq_def, ↓hwp.eq_def, ↓ldV.eq_def, ↓ldK.eq_def, ↓ixK.eq_def, ↓addOff.eq_def, ↓exK.eq_def, ↓notK.eq_def, ↓pickK.eq_def, ↓iop2.eq_def, ↓binK.eq_def, ↓eqop.eq_def, icells, ↓iop.eq_def, ↓cutK.eq_def, ↓lenK.eq_def, ↓lenM.eq_def, tyInt, ↓lookK.eq_def, ↓mpK.eq_def, keyV, allI, fitK, lkM, upM, dlM, kq, ↓cvK.eq_def, ↓mmK.eq_def, ↓biK.eq_def, ↓stK.eq_def, ↓apK.eq_def, ↓apD.eq_def, ↓apS.eq_def, nxt, put, setT, setB, delB, lkT_n, lkT_c, lkB_n, lkB_c, ev, ofC, inT, ofA, ofRet, dV_n, dV_c, getD_enc, toDs_dV, List.head?_cons, List.length_map, Option.toArray_some, Option.toArray_none, Int.toNat_natCast, slOf, TyK.agg, vcells, splice, strip, stripP, gOf, allP, rowV, toDs, toD, toA, toAs, headOps, tailOps, isT, addN, Op.operands, Call.operands, List.map_cons, List.map_nil, List.drop_zero, List.drop_succ_cons, List.take_succ_cons, List.take_zero, List.length_cons, List.length_nil, List.getElem?_cons_zero, List.getElem?_cons_succ, List.getElem?_toArray, Option.bind_some, Option.map_some, Option.map_none, List.append_nil, List.nil_append, List.cons_append, if_true, if_false, reduceIte, Nat.reduceEqDiff, Nat.reduceAdd, Nat.reduceSub, Int.reduceToNat, Nat.reduceLeDiff, Nat.reduceLT, and_false, and_self, Nat.zero_add, Nat.add_zero, reduceCtorEq, Option.getD_some, Option.getD_none, Option.isSome_some, Option.isSome_none, forall_const, true_and, and_true, true_implies, Bool.true_and, Bool.false_and, Bool.and_true, Bool.and_false, Bool.true_or, Bool.false_or, Bool.or_true, Bool.or_false, beq_self_eq_true, zipM, zcells, Value.cells, Value.oneCell', List.toList_toArray, Array.toList_append, Bool.not_not, List.cons.injEq, Int.reduceEq, eq_self, false_and, Bool.not_true, Bool.not_false, ne_eq, not_false_eq_true, imp_self, implies_true, av_bt, av_bf, av_and, av_or, av_nf, av_tt, av_n1, av_n2, av_t1, av_tp, retQ, retL, resV, RetV, RetOk, SubL, snocE, entD_len, entD_take, entD_hd, entD_ln, entD_ic, entD_d1, entD_d2, entD_d3, entD_d4, entD_d5, entD_d6, entD_d7, homD_len, homD_take, homD_hd, homD_ln, homD_ic, homD_d1, homD_d2, intD_len, intD_take, intD_hd, intD_ln, intD_ic, ty_39, ty_3, ty_22, ty_30, ty_4, ty_26, hv]; try simp (disch := omega) only [av_w, av_t1, av_tp, Int.toNat_natCast]))
    all_goals try (rename_i h; simp at h; omega)
    refine aw_loopI (fun k : Nat => ⟨[(0, vEs l), (1, vI person), (2, vI day), (3, vI time), (9, .d (.sl 1 (intD 0) (ps.map intD))), (11, .ow 0 8 (entD default) (((l.take k).filter (fun x => decide (x.a ∈ ps))).map entD)), (40, vEs l), (41, vI l.length), (42, vI k)], [(0, .tok 39 8 ((l.take k).filter (fun x => decide (x.a ∈ ps))).length)], 1⟩) (fun k => k ≤ l.length) (fun k => l.length - k) 0 (Nat.zero_le _) (wk_of [(0, none)] rfl rfl ?_ ?_) ?_
    · simp only [wkT, wkB, wkB1, subV, subVs, subD, subB, lkN_n, lkN_c, lkT_n, lkT_c, lkB_n, lkB_c, if_true, if_false, reduceIte, Nat.reduceEqDiff, true_and, and_true, and_self, inT, ofA]
      (repeat' (first | exact trivial | rfl | exact rfl | refine And.intro ?_ ?_))
    · simp only [wkT, wkB, wkB1, subV, subVs, subD, subB, lkN_n, lkN_c, lkT_n, lkT_c, lkB_n, lkB_c, if_true, if_false, reduceIte, Nat.reduceEqDiff, true_and, and_true, and_self, inT, ofA]
      (repeat' (first | exact trivial | rfl | exact rfl | refine And.intro ?_ ?_))
    intro k hk
    have hp := take_filter_len l (fun x => decide (x.a ∈ ps)) k
    have hsub : List.Sublist (l.filter (fun x => decide (x.a ∈ ps))) l := List.filter_sublist
    have hlm : (l.filter (fun x => decide (x.a ∈ ps))).length ≤ l.length := List.length_filter_le _ _
    have hs := hsame_spec l (l.filter (fun x => decide (x.a ∈ ps))) person day time hl (okE_kind hk') (by omega) (okE_kind fun x hx => hk' x (hsub.subset hx))
    rw [sameL, (hf.sub hsub).errO, hf.errO, hps, (others_plain hf).1, (others_plain hf).2, ← hps] at hs
    rcases Nat.lt_or_ge k l.length with hlt | hge
    · have hsc := take_filter_succ l (fun x => decide (x.a ∈ ps)) k hlt
      have hd := ltd hlt
      cases hm : decide ((l.getD k default).a ∈ ps) with
      | true =>
        repeat' (first
          | (with_reducible refine aw_seq ?_)
          | ((with_reducible refine twoG_intro ?_ ?_) <;> intro hTw <;> first | (exact Bool.noConfusion hTw) | ((try simp only [hTw, Bool.not_true, Bool.not_false, Bool.true_and, Bool.false_and, Bool.and_true, Bool.and_false, Bool.true_or, Bool.false_or, Bool.or_true, Bool.or_false]); (first | (guard_hyp hTw : true = true; clear hTw) | (guard_hyp hTw : false = false; clear hTw) | (revert hTw; intro _))))
          | ((with_reducible refine two_intro ?_ ?_) <;> intro hTw <;> first | (exact Bool.noConfusion hTw) | ((first | (guard_hyp hTw : true = true; clear hTw) | (guard_hyp hTw : false = false; clear hTw) | (revert hTw; intro _))))
          | ((with_reducible refine And.intro ?_ ?_); (focus (first | omega | rfl | decide | grind)))
          | (with_reducible refine aw_block ?_)
          | (with_reducible refine aw_scope ?_)
          | ((first
              | ((with_reducible refine aw_regionA T_ok ?_ ?_); (focus kernel_rfl))
              | ((with_reducible refine aw_drawnA T_ok ?_ ?_ ?_ ?_); (focus kernel_rfl); (focus kernel_rfl); (focus kernel_rfl))
              | ((with_reducible refine callK_intro (has_spec ps _ (by omega)) (by with_unfolding_all rfl) ?_ ?_); (focus kernel_rfl))
              | ((with_reducible refine callI_spec (has_spec ps _ (by omega)) (by with_unfolding_all rfl) ?_ ?_ ?_); (focus kernel_rfl); (focus kernel_rfl))
              | (with_reducible refine aw_label ?_)
              | ((with_reducible refine aw_rfM ?_ ?_); (focus kernel_rfl))
              | (with_reducible refine aw_skip ?_)
              | (with_reducible refine aw_exit ?_)
              | ((with_reducible refine aw_condM ?_ ?_); (focus kernel_rfl))
              | (with_reducible refine aw_ret ?_)
            ); simp only [↓rwp.eq_def, ↓sop.eq_def, ↓slotK.eq_def, inV, shT, unT, inQ, rfQ, rfEnd, resOf, pickT, setP, ydA, ydQ, rowW, vD, fillV,  ↓gop.eq_def, ↓hop.eq_def, ↓hopH.eq_def, ↓hwp.eq_def, ↓ldV.eq_def, ↓ldK.eq_def, ↓ixK.eq_def, ↓addOff.eq_def, ↓exK.eq_def, ↓notK.eq_def, ↓pickK.eq_def, ↓iop2.eq_def, ↓binK.eq_def, ↓eqop.eq_def, icells, ↓iop.eq_def, ↓cutK.eq_def, ↓lenK.eq_def, ↓lenM.eq_def, tyInt, ↓lookK.eq_def, ↓mpK.eq_def, keyV, allI, fitK, lkM, upM, dlM, kq, ↓cvK.eq_def, ↓mmK.eq_def, ↓biK.eq_def, ↓stK.eq_def, ↓apK.eq_def, ↓apD.eq_def, ↓apS.eq_def, nxt, put, setT, setB, delB, lkT_n, lkT_c, lkB_n, lkB_c, ev, ofC, inT, ofA, ofRet, dV_n, dV_c, getD_enc, toDs_dV, List.head?_cons, List.length_map, Option.toArray_some, Option.toArray_none, Int.toNat_natCast, slOf, TyK.agg, vcells, splice, strip, stripP, gOf, allP, rowV, toDs, toD, toA, toAs, headOps, tailOps, isT, addN, Op.operands, Call.operands, List.map_cons, List.map_nil, List.drop_zero, List.drop_succ_cons, List.take_succ_cons, List.take_zero, List.length_cons, List.length_nil, List.getElem?_cons_zero, List.getElem?_cons_succ, List.getElem?_toArray, Option.bind_some, Option.map_some, Option.map_none, List.append_nil, List.nil_append, List.cons_append, if_true, if_false, reduceIte, Nat.reduceEqDiff, Nat.reduceAdd, Nat.reduceSub, Int.reduceToNat, Nat.reduceLeDiff, Nat.reduceLT, and_false, and_self, Nat.zero_add, Nat.add_zero, reduceCtorEq, Option.getD_some, Option.getD_none, Option.isSome_some, Option.isSome_none, forall_const, true_and, and_true, true_implies, Bool.true_and, Bool.false_and, Bool.and_true, Bool.and_false, Bool.true_or, Bool.false_or, Bool.or_true, Bool.or_false, beq_self_eq_true, zipM, zcells, Value.cells, Value.oneCell', List.toList_toArray, Array.toList_append, Bool.not_not, List.cons.injEq, Int.reduceEq, eq_self, false_and, Bool.not_true, Bool.not_false, ne_eq, not_false_eq_true, imp_self, implies_true, av_bt, av_bf, av_and, av_or, av_nf, av_tt, av_n1, av_n2, av_t1, av_tp, retQ, retL, resV, RetV, RetOk, SubL, snocE, entD_len, entD_take, entD_hd, entD_ln, entD_ic, entD_d1, entD_d2, entD_d3, entD_d4, entD_d5, entD_d6, entD_d7, homD_len, homD_take, homD_hd, homD_ln, homD_ic, homD_d1, homD_d2, intD_len, intD_take, intD_hd, intD_ln, intD_ic, ty_39, ty_3, ty_22, ty_30, ty_4, ty_26, hd, hm]; try simp (disch := omega) only [av_w, av_t1, av_tp, Int.toNat_natCast]))
        rw [if_pos hm] at hsc
        refine ⟨k + 1, by omega, by dsimp only; omega, wk_of [(0, some 3)] rfl rfl ?_ ?_⟩
        · simp only [wkT, wkB, wkB1, subV, subVs, subD, subB, lkN_n, lkN_c, lkT_n, lkT_c, lkB_n, lkB_c, if_true, if_false, reduceIte, Nat.reduceEqDiff, true_and, and_true, and_self, inT, ofA]
          exact ⟨by rw [hsc], rfl⟩
        · simp only [wkT, wkB, wkB1, subV, subVs, subD, subB, lkN_n, lkN_c, lkT_n, lkT_c, lkB_n, lkB_c, if_true, if_false, reduceIte, Nat.reduceEqDiff, true_and, and_true, and_self, inT, ofA]
          rw [hsc]; simp
      | false =>
        repeat' (first
          | (with_reducible refine aw_seq ?_)
          | ((with_reducible refine twoG_intro ?_ ?_) <;> intro hTw <;> first | (exact Bool.noConfusion hTw) | ((try simp only [hTw, Bool.not_true, Bool.not_false, Bool.true_and, Bool.false_and, Bool.and_true, Bool.and_false, Bool.true_or, Bool.false_or, Bool.or_true, Bool.or_false]); (first | (guard_hyp hTw : true = true; clear hTw) | (guard_hyp hTw : false = false; clear hTw) | (revert hTw; intro _))))
          | ((with_reducible refine two_intro ?_ ?_) <;> intro hTw <;> first | (exact Bool.noConfusion hTw) | ((first | (guard_hyp hTw : true = true; clear hTw) | (guard_hyp hTw : false = false; clear hTw) | (revert hTw; intro _))))
          | ((with_reducible refine And.intro ?_ ?_); (focus (first | omega | rfl | decide | grind)))
          | (with_reducible refine aw_block ?_)
          | (with_reducible refine aw_scope ?_)
          | ((first
              | ((with_reducible refine aw_regionA T_ok ?_ ?_); (focus kernel_rfl))
              | ((with_reducible refine aw_drawnA T_ok ?_ ?_ ?_ ?_); (focus kernel_rfl); (focus kernel_rfl); (focus kernel_rfl))
              | ((with_reducible refine callK_intro (has_spec ps _ (by omega)) (by with_unfolding_all rfl) ?_ ?_); (focus kernel_rfl))
              | ((with_reducible refine callI_spec (has_spec ps _ (by omega)) (by with_unfolding_all rfl) ?_ ?_ ?_); (focus kernel_rfl); (focus kernel_rfl))
              | (with_reducible refine aw_label ?_)
              | ((with_reducible refine aw_rfM ?_ ?_); (focus kernel_rfl))
              | (with_reducible refine aw_skip ?_)
              | (with_reducible refine aw_exit ?_)
              | ((with_reducible refine aw_condM ?_ ?_); (focus kernel_rfl))
              | (with_reducible refine aw_ret ?_)
            ); simp only [↓rwp.eq_def, ↓sop.eq_def, ↓slotK.eq_def, inV, shT, unT, inQ, rfQ, rfEnd, resOf, pickT, setP, ydA, ydQ, rowW, vD, fillV,  ↓gop.eq_def, ↓hop.eq_def, ↓hopH.eq_def, ↓hwp.eq_def, ↓ldV.eq_def, ↓ldK.eq_def, ↓ixK.eq_def, ↓addOff.eq_def, ↓exK.eq_def, ↓notK.eq_def, ↓pickK.eq_def, ↓iop2.eq_def, ↓binK.eq_def, ↓eqop.eq_def, icells, ↓iop.eq_def, ↓cutK.eq_def, ↓lenK.eq_def, ↓lenM.eq_def, tyInt, ↓lookK.eq_def, ↓mpK.eq_def, keyV, allI, fitK, lkM, upM, dlM, kq, ↓cvK.eq_def, ↓mmK.eq_def, ↓biK.eq_def, ↓stK.eq_def, ↓apK.eq_def, ↓apD.eq_def, ↓apS.eq_def, nxt, put, setT, setB, delB, lkT_n, lkT_c, lkB_n, lkB_c, ev, ofC, inT, ofA, ofRet, dV_n, dV_c, getD_enc, toDs_dV, List.head?_cons, List.length_map, Option.toArray_some, Option.toArray_none, Int.toNat_natCast, slOf, TyK.agg, vcells, splice, strip, stripP, gOf, allP, rowV, toDs, toD, toA, toAs, headOps, tailOps, isT, addN, Op.operands, Call.operands, List.map_cons, List.map_nil, List.drop_zero, List.drop_succ_cons, List.take_succ_cons, List.take_zero, List.length_cons, List.length_nil, List.getElem?_cons_zero, List.getElem?_cons_succ, List.getElem?_toArray, Option.bind_some, Option.map_some, Option.map_none, List.append_nil, List.nil_append, List.cons_append, if_true, if_false, reduceIte, Nat.reduceEqDiff, Nat.reduceAdd, Nat.reduceSub, Int.reduceToNat, Nat.reduceLeDiff, Nat.reduceLT, and_false, and_self, Nat.zero_add, Nat.add_zero, reduceCtorEq, Option.getD_some, Option.getD_none, Option.isSome_some, Option.isSome_none, forall_const, true_and, and_true, true_implies, Bool.true_and, Bool.false_and, Bool.and_true, Bool.and_false, Bool.true_or, Bool.false_or, Bool.or_true, Bool.or_false, beq_self_eq_true, zipM, zcells, Value.cells, Value.oneCell', List.toList_toArray, Array.toList_append, Bool.not_not, List.cons.injEq, Int.reduceEq, eq_self, false_and, Bool.not_true, Bool.not_false, ne_eq, not_false_eq_true, imp_self, implies_true, av_bt, av_bf, av_and, av_or, av_nf, av_tt, av_n1, av_n2, av_t1, av_tp, retQ, retL, resV, RetV, RetOk, SubL, snocE, entD_len, entD_take, entD_hd, entD_ln, entD_ic, entD_d1, entD_d2, entD_d3, entD_d4, entD_d5, entD_d6, entD_d7, homD_len, homD_take, homD_hd, homD_ln, homD_ic, homD_d1, homD_d2, intD_len, intD_take, intD_hd, intD_ln, intD_ic, ty_39, ty_3, ty_22, ty_30, ty_4, ty_26, hd, hm]; try simp (disch := omega) only [av_w, av_t1, av_tp, Int.toNat_natCast]))
        rw [if_neg (by rw [hm]; simp), List.append_nil] at hsc
        refine ⟨k + 1, by omega, by dsimp only; omega, wk_of [(0, some 0)] rfl rfl ?_ ?_⟩
        · simp only [wkT, wkB, wkB1, subV, subVs, subD, subB, lkN_n, lkN_c, lkT_n, lkT_c, lkB_n, lkB_c, if_true, if_false, reduceIte, Nat.reduceEqDiff, true_and, and_true, and_self, inT, ofA]
          exact ⟨by rw [hsc], rfl⟩
        · simp only [wkT, wkB, wkB1, subV, subVs, subD, subB, lkN_n, lkN_c, lkT_n, lkT_c, lkB_n, lkB_c, if_true, if_false, reduceIte, Nat.reduceEqDiff, true_and, and_true, and_self, inT, ofA]
          rw [hsc]
    · obtain rfl : k = l.length := by omega
      have hd := ged (Nat.le_refl l.length)
      rw [List.take_length]
      repeat' (first
        | (with_reducible refine aw_seq ?_)
        | ((with_reducible refine twoG_intro ?_ ?_) <;> intro hTw <;> first | (exact Bool.noConfusion hTw) | ((try simp only [hTw, Bool.not_true, Bool.not_false, Bool.true_and, Bool.false_and, Bool.and_true, Bool.and_false, Bool.true_or, Bool.false_or, Bool.or_true, Bool.or_false]); (first | (guard_hyp hTw : true = true; clear hTw) | (guard_hyp hTw : false = false; clear hTw) | (revert hTw; intro _))))
        | ((with_reducible refine two_intro ?_ ?_) <;> intro hTw <;> first | (exact Bool.noConfusion hTw) | ((first | (guard_hyp hTw : true = true; clear hTw) | (guard_hyp hTw : false = false; clear hTw) | (revert hTw; intro _))))
        | ((with_reducible refine And.intro ?_ ?_); (focus (first | omega | rfl | decide | grind)))
        | (with_reducible refine aw_block ?_)
        | (with_reducible refine aw_scope ?_)
        | ((first
            | ((with_reducible refine aw_regionA T_ok ?_ ?_); (focus kernel_rfl))
            | ((with_reducible refine aw_drawnA T_ok ?_ ?_ ?_ ?_); (focus kernel_rfl); (focus kernel_rfl); (focus kernel_rfl))
            | ((with_reducible refine callK_intro (hs) (by with_unfolding_all rfl) ?_ ?_); (focus kernel_rfl))
            | ((with_reducible refine callI_spec (hs) (by with_unfolding_all rfl) ?_ ?_ ?_); (focus kernel_rfl); (focus kernel_rfl))
            | (with_reducible refine aw_label ?_)
            | ((with_reducible refine aw_rfM ?_ ?_); (focus kernel_rfl))
            | (with_reducible refine aw_skip ?_)
            | (with_reducible refine aw_exit ?_)
            | ((with_reducible refine aw_condM ?_ ?_); (focus kernel_rfl))
            | (with_reducible refine aw_ret ?_)
          ); simp only [↓rwp.eq_def, ↓sop.eq_def, ↓slotK.eq_def, inV, shT, unT, inQ, rfQ, rfEnd, resOf, pickT, setP, ydA, ydQ, rowW, vD, fillV,  ↓gop.eq_def, ↓hop.eq_def, ↓hopH.eq_def, ↓hwp.eq_def, ↓ldV.eq_def, ↓ldK.eq_def, ↓ixK.eq_def, ↓addOff.eq_def, ↓exK.eq_def, ↓notK.eq_def, ↓pickK.eq_def, ↓iop2.eq_def, ↓binK.eq_def, ↓eqop.eq_def, icells, ↓iop.eq_def, ↓cutK.eq_def, ↓lenK.eq_def, ↓lenM.eq_def, tyInt, ↓lookK.eq_def, ↓mpK.eq_def, keyV, allI, fitK, lkM, upM, dlM, kq, ↓cvK.eq_def, ↓mmK.eq_def, ↓biK.eq_def, ↓stK.eq_def, ↓apK.eq_def, ↓apD.eq_def, ↓apS.eq_def, nxt, put, setT, setB, delB, lkT_n, lkT_c, lkB_n, lkB_c, ev, ofC, inT, ofA, ofRet, dV_n, dV_c, getD_enc, toDs_dV, List.head?_cons, List.length_map, Option.toArray_some, Option.toArray_none, Int.toNat_natCast, slOf, TyK.agg, vcells, splice, strip, stripP, gOf, allP, rowV, toDs, toD, toA, toAs, headOps, tailOps, isT, addN, Op.operands, Call.operands, List.map_cons, List.map_nil, List.drop_zero, List.drop_succ_cons, List.take_succ_cons, List.take_zero, List.length_cons, List.length_nil, List.getElem?_cons_zero, List.getElem?_cons_succ, List.getElem?_toArray, Option.bind_some, Option.map_some, Option.map_none, List.append_nil, List.nil_append, List.cons_append, if_true, if_false, reduceIte, Nat.reduceEqDiff, Nat.reduceAdd, Nat.reduceSub, Int.reduceToNat, Nat.reduceLeDiff, Nat.reduceLT, and_false, and_self, Nat.zero_add, Nat.add_zero, reduceCtorEq, Option.getD_some, Option.getD_none, Option.isSome_some, Option.isSome_none, forall_const, true_and, and_true, true_implies, Bool.true_and, Bool.false_and, Bool.and_true, Bool.and_false, Bool.true_or, Bool.false_or, Bool.or_true, Bool.or_false, beq_self_eq_true, zipM, zcells, Value.cells, Value.oneCell', List.toList_toArray, Array.toList_append, Bool.not_not, List.cons.injEq, Int.reduceEq, eq_self, false_and, Bool.not_true, Bool.not_false, ne_eq, not_false_eq_true, imp_self, implies_true, av_bt, av_bf, av_and, av_or, av_nf, av_tt, av_n1, av_n2, av_t1, av_tp, retQ, retL, resV, RetV, RetOk, SubL, snocE, entD_len, entD_take, entD_hd, entD_ln, entD_ic, entD_d1, entD_d2, entD_d3, entD_d4, entD_d5, entD_d6, entD_d7, homD_len, homD_take, homD_hd, homD_ln, homD_ic, homD_d1, homD_d2, intD_len, intD_take, intD_hd, intD_ln, intD_ic, ty_39, ty_3, ty_22, ty_30, ty_4, ty_26, hd]; try simp (disch := omega) only [av_w, av_t1, av_tp, Int.toNat_natCast]))
      exact Sub.of_eq (congrArg aB (by simp))
end Go.Proofs.Ytfmefdeldgmhpaa

namespace Go.Proofs.Ytfmefdeldgmhpaa
set_option linter.unusedSimpArgs false
set_option linter.unusedVariables false
open Go.RowKit
set_option maxRecDepth 100000
set_option maxHeartbeats 4000000
theorem chain_in (nx : Int → Option Int) : ∀ (n : Nat) (met : List Int) (p : Int), ∀ x ∈ (chainF nx n met p).1, x = p ∨ ∃ y, nx y = some x
  | 0, met, p, x, h => .inl (by simpa [chainF] using h)
  | n + 1, met, p, x, h => by
    simp only [chainF] at h
    cases hq : nx p with
    | none => rw [hq] at h; exact .inl (by simpa using h)
    | some q =>
      simp only [hq] at h
      by_cases hm : q ∈ p :: met
      · rw [if_pos hm] at h; exact .inl (by simpa using h)
      · rw [if_neg hm] at h
        rcases List.mem_cons.1 h with h | h
        · exact .inl h
        · rcases chain_in nx n (p :: met) q x h with rfl | h
          · exact .inr ⟨p, hq⟩
          · exact .inr h
theorem asked_in {xs : List Ent} {p : Int} (hv : ∀ y ∈ xs, validE y = true) (hp : 0 ≤ p ∧ p ≤ 1048576) : ∀ x ∈ (askedL xs p).1, 0 ≤ x ∧ x ≤ 1048576 := fun x hx => by
  rcases chain_in (nxK xs) xs.length [] p x hx with rfl | ⟨y, hy⟩
  · exact hp
  · unfold nxK at hy
    cases hl : lastK 2 y xs with
    | none => rw [hl] at hy; cases hy
    | some e =>
      rw [hl] at hy
      have := lastK_b hv hl
      simp at hy
      omega
theorem FineL.at {l : List Ent} {person day time p : Int} (h : FineL l person day time) (hp : 0 ≤ p ∧ p ≤ 1048576) : FineL l p day time := { h with p0 := hp.1, p1 := hp.2 }
theorem law7_spec (l : List Ent) (person day time at_ : Int) (hat : (Lit.int .u8 at_).wf = true) (ho : l.length ≤ 140737488351232 ∧ ∀ x ∈ l, OkE x) : Spec Try.prog 7 [aEs l, aI person, aI day, aI time, .one (.c (.int .u8 at_))] (.r1 (aB true)) := by
  obtain ⟨hl, hk'⟩ := ho
  have hk := okE_kind hk'
  have hat' : 0 ≤ at_ ∧ at_ ≤ 255 := by simpa [Lit.wf, IntKind.min, IntKind.max, IntKind.signed, IntKind.bits] using hat
  refine spec_of T_ok Try.func7 (by dsimp only [Try.f7]) rfl rfl (by simp) fun w F => ?_
  cases hv : validL l person day time with
  | false =>
    repeat' (first
      | (with_reducible refine aw_seq ?_)
      | ((with_reducible refine twoG_intro ?_ ?_) <;> intro hTw <;> first | (exact Bool.noConfusion hTw) | ((try simp only [hTw, Bool.not_true, Bool.not_false, Bool.true_and, Bool.false_and, Bool.and_true, Bool.and_false, Bool.true_or, Bool.false_or, Bool.or_true, Bool.or_false]); (first | (guard_hyp hTw : true = true; clear hTw) | (guard_hyp hTw : false = false; clear hTw) | (revert hTw; intro _))))
      | ((with_reducible refine two_intro ?_ ?_) <;> intro hTw <;> first | (exact Bool.noConfusion hTw) | ((first | (guard_hyp hTw : true = true; clear hTw) | (guard_hyp hTw : false = false; clear hTw) | (revert hTw; intro _))))
      | ((with_reducible refine And.intro ?_ ?_); (focus (first | exact eqHome | omega | rfl | decide | grind)))
      | (with_reducible refine aw_block ?_)
      | (with_reducible refine aw_scope ?_)
      | ((first
          | ((with_reducible refine aw_regionA T_ok ?_ ?_); (focus kernel_rfl))
          | ((with_reducible refine aw_drawnA T_ok ?_ ?_ ?_ ?_); (focus kernel_rfl); (focus kernel_rfl); (focus kernel_rfl))
          | ((with_reducible refine callK_intro (hsane_spec) (by with_unfolding_all rfl) ?_ ?_); (focus kernel_rfl))
          | ((with_reducible refine callI_spec (hsane_spec) (by with_unfolding_all rfl) ?_ ?_ ?_); (focus kernel_rfl); (focus kernel_rfl))
          | ((with_reducible refine callK_intro (hvalid_spec l person day time hl) (by with_unfolding_all rfl) ?_ ?_); (focus kernel_rfl))
          | ((with_reducible refine callI_spec (hvalid_spec l person day time hl) (by with_unfolding_all rfl) ?_ ?_ ?_); (focus kernel_rfl); (focus kernel_rfl))
          | (with_reducible refine aw_label ?_)
          | ((with_reducible refine aw_rfM ?_ ?_); (focus kernel_rfl))
          | (with_reducible refine aw_skip ?_)
          | (with_reducible refine aw_exit ?_)
          | ((with_reducible refine aw_condM ?_ ?_); (focus kernel_rfl))
          | (with_reducible refine aw_ret ?_)
        ); simp only [↓rwp.eq_def, ↓sop.eq_def, ↓slotK.eq_def, inV, shT, unT, inQ, rfQ, rfEnd, resOf, pickT, setP, ydA, ydQ, rowW, vD, fillV,  ↓gop.eq_def, ↓hop.eq_def, ↓hopH.eq_def, ↓hwp.eq_def, ↓ldV.eq_def, ↓ldK.eq_def, ↓ixK.eq_def, ↓addOff.eq_def, ↓exK.eq_def, ↓notK.eq_def, ↓pickK.eq_def, ↓iop2.eq_def, ↓binK.eq_def, ↓eqop.eq_def, icells, ↓iop.eq_def, ↓cutK.eq_def, ↓lenK.eq_def, ↓lenM.eq_def, tyInt, ↓lookK.eq_def, ↓mpK.eq_def, keyV, allI, fitK, lkM, upM, dlM, kq, ↓cvK.eq_def, ↓mmK.eq_def, ↓biK.eq_def, ↓stK.eq_def, ↓apK.eq_def, ↓apD.eq_def, ↓apS.eq_def, nxt, put, setT, setB, delB, lkT_n, lkT_c, lkB_n, lkB_c, ev, ofC, inT, ofA, ofRet, dV_n, dV_c, getD_enc, toDs_dV, List.head?_cons, List.length_map, Option.toArray_some, Option.toArray_none, Int.toNat_natCast, slOf, TyK.agg, vcells, splice, strip, stripP, gOf, allP, rowV, toDs, toD, toA, toAs, headOps, tailOps, isT, addN, Op.operands, Call.operands, List.map_cons, List.map_nil, List.drop_zero, List.drop_succ_cons, List.take_succ_cons, List.take_zero, List.length_cons, List.length_nil, List.getElem?_cons_zero, List.getElem?_cons_succ, List.getElem?_toArray, Option.bind_some, Option.map_some, Option.map_none, List.append_nil, List.nil_append, List.cons_append, if_true, if_false, reduceIte, Nat.reduceEqDiff, Nat.reduceAdd, Nat.reduceSub, Int.reduceToNat, Nat.reduceLeDiff, Nat.reduceLT, and_false, and_self, Nat.zero_add, Nat.add_zero, reduceCtorEq, Option.getD_some, Option.getD_none, Option.isSome_some, Option.isSome_none, forall_const, true_and, and_true, true_implies, Bool.true_and, Bool.false_and, Bool.and_true, Bool.and_false, Bool.true_or, Bool.false_or, Bool.or_true, Bool.or_false, beq_self_eq_true, zipM, zcells, Value.cells, Value.oneCell', List.toList_toArray, Array.toList_append, Bool.not_not, List.cons.injEq, Int.reduceEq, eq_self, false_and, Bool.not_true, Bool.not_false, ne_eq, not_false_eq_true, imp_self, implies_true, av_bt, av_bf, av_and, av_or, av_nf, av_tt, av_n1, av_n2, av_t1, av_tp, retQ, retL, resV, RetV, RetOk, SubL, entD_len, entD_take, entD_hd, entD_ln, entD_ic, entD_d1, entD_d2, entD_d3, entD_d4, entD_d5, entD_d6, entD_d7, homD_len, homD_take, homD_hd, homD_ln, homD_ic, homD_d1, homD_d2, intD_len, intD_take, intD_hd, intD_ln, intD_ic, ty_39, ty_3, ty_22, ty_30, ty_4, ty_26, ty_5, hv]; try simp (disch := omega) only [av_w, av_t1, av_tp, Int.toNat_natCast]))
    exact Sub.refl _
  | true =>
    have hf := fineL_of hv
    have h24 := hf.few
    have hE := hf.errO
    have hA := hagents_spec l person day time hl hk
    have hW := hwhere_spec l person day time hl hk
    rw [hE] at hA hW
    have hv2 := stand_valid hf.errS
    obtain ⟨xs, hxs⟩ : ∃ xs, xs = standE l day time := ⟨_, rfl⟩
    have hag : ∀ p, 0 ≤ p ∧ p ≤ 1048576 → agentsL l p day time = (askedL xs p).1 := fun p hp => by rw [agentsL, if_pos (hf.at hp).errO, hxs]
    have hwh : ∀ p, 0 ≤ p ∧ p ≤ 1048576 → whereL l p day time = homeK xs p := fun p hp => by rw [whereL, if_pos (hf.at hp).errO, hxs]
    have hp0 : 0 ≤ person ∧ person ≤ 1048576 := ⟨hf.p0, hf.p1⟩
    have hlen := agentsL_len l person day time hE
    rw [hag person hp0] at hA hlen
    rw [hwh person hp0] at hW
    rw [← hxs] at hv2
    have hin := asked_in hv2 hp0
    have hne := asked_ne xs person
    have hz := lastI (askedL xs person).1 person hne
    have hzi := hin _ (last_mem (askedL xs person).1 person hne)
    have hlast := asked_last hv2 (p := person)
    have hpos : 0 < (askedL xs person).1.length := List.length_pos_iff.2 hne
    have hE2 := (hf.at hzi).errO
    have hA2 := hagents_spec l (lastOf (askedL xs person).1 person) day time hl hk
    rw [hE2, hag _ hzi] at hA2
    have hlen2 := agentsL_len l _ day time hE2
    rw [hag _ hzi] at hlen2
    have hb1 : (((askedL xs person).1.length : Int) == 0) = false := by rw [beq_eq_false_iff_ne]; omega
    have hb2 : decide (((askedL xs person).1.length : Int) > (l.length : Int) + 1) = false := decide_eq_false (by omega)
    cases hc : (askedL xs person).2 with
    | true =>
      have hl1 := hlast.1 hc
      have hb3 : (((askedL xs (lastOf (askedL xs person).1 person)).1.length : Int) == 0) = false := by rw [beq_eq_false_iff_ne]; omega
      have hb4 : decide (((askedL xs (lastOf (askedL xs person).1 person)).1.length : Int) > 1) = true := decide_eq_true (by omega)
      rw [homeK, if_pos hc] at hW
      have hn3 : ((0 : Int) != 0) = false := rfl
      repeat' (first
        | (with_reducible refine aw_seq ?_)
        | ((with_reducible refine twoG_intro ?_ ?_) <;> intro hTw <;> first | (exact Bool.noConfusion hTw) | ((try simp only [hTw, Bool.not_true, Bool.not_false, Bool.true_and, Bool.false_and, Bool.and_true, Bool.and_false, Bool.true_or, Bool.false_or, Bool.or_true, Bool.or_false]); (first | (guard_hyp hTw : true = true; clear hTw) | (guard_hyp hTw : false = false; clear hTw) | (revert hTw; intro _))))
        | ((with_reducible refine two_intro ?_ ?_) <;> intro hTw <;> first | (exact Bool.noConfusion hTw) | ((first | (guard_hyp hTw : true = true; clear hTw) | (guard_hyp hTw : false = false; clear hTw) | (revert hTw; intro _))))
        | ((with_reducible refine And.intro ?_ ?_); (focus (first | exact eqHome | omega | rfl | decide | grind)))
        | (with_reducible refine aw_block ?_)
        | (with_reducible refine aw_scope ?_)
        | ((first
            | ((with_reducible refine aw_regionA T_ok ?_ ?_); (focus kernel_rfl))
            | ((with_reducible refine aw_drawnA T_ok ?_ ?_ ?_ ?_); (focus kernel_rfl); (focus kernel_rfl); (focus kernel_rfl))
            | ((with_reducible refine callK_intro (hsane_spec) (by with_unfolding_all rfl) ?_ ?_); (focus kernel_rfl))
            | ((with_reducible refine callI_spec (hsane_spec) (by with_unfolding_all rfl) ?_ ?_ ?_); (focus kernel_rfl); (focus kernel_rfl))
            | ((with_reducible refine callK_intro (hvalid_spec l person day time hl) (by with_unfolding_all rfl) ?_ ?_); (focus kernel_rfl))
            | ((with_reducible refine callI_spec (hvalid_spec l person day time hl) (by with_unfolding_all rfl) ?_ ?_ ?_); (focus kernel_rfl); (focus kernel_rfl))
            | ((with_reducible refine callK_intro (hA) (by with_unfolding_all rfl) ?_ ?_); (focus kernel_rfl))
            | ((with_reducible refine callI_spec (hA) (by with_unfolding_all rfl) ?_ ?_ ?_); (focus kernel_rfl); (focus kernel_rfl))
            | ((with_reducible refine callK_intro (hW) (by with_unfolding_all rfl) ?_ ?_); (focus kernel_rfl))
            | ((with_reducible refine callI_spec (hW) (by with_unfolding_all rfl) ?_ ?_ ?_); (focus kernel_rfl); (focus kernel_rfl))
            | ((with_reducible refine callK_intro (hA2) (by with_unfolding_all rfl) ?_ ?_); (focus kernel_rfl))
            | ((with_reducible refine callI_spec (hA2) (by with_unfolding_all rfl) ?_ ?_ ?_); (focus kernel_rfl); (focus kernel_rfl))
            | (with_reducible refine aw_label ?_)
            | ((with_reducible refine aw_rfM ?_ ?_); (focus kernel_rfl))
            | (with_reducible refine aw_skip ?_)
            | (with_reducible refine aw_exit ?_)
            | ((with_reducible refine aw_condM ?_ ?_); (focus kernel_rfl))
            | (with_reducible refine aw_ret ?_)
          ); simp only [↓rwp.eq_def, ↓sop.eq_def, ↓slotK.eq_def, inV, shT, unT, inQ, rfQ, rfEnd, resOf, pickT, setP, ydA, ydQ, rowW, vD, fillV,  ↓gop.eq_def, ↓hop.eq_def, ↓hopH.eq_def, ↓hwp.eq_def, ↓ldV.eq_def, ↓ldK.eq_def, ↓ixK.eq_def, ↓addOff.eq_def, ↓exK.eq_def, ↓notK.eq_def, ↓pickK.eq_def, ↓iop2.eq_def, ↓binK.eq_def, ↓eqop.eq_def, icells, ↓iop.eq_def, ↓cutK.eq_def, ↓lenK.eq_def, ↓lenM.eq_def, tyInt, ↓lookK.eq_def, ↓mpK.eq_def, keyV, allI, fitK, lkM, upM, dlM, kq, ↓cvK.eq_def, ↓mmK.eq_def, ↓biK.eq_def, ↓stK.eq_def, ↓apK.eq_def, ↓apD.eq_def, ↓apS.eq_def, nxt, put, setT, setB, delB, lkT_n, lkT_c, lkB_n, lkB_c, ev, ofC, inT, ofA, ofRet, dV_n, dV_c, getD_enc, toDs_dV, List.head?_cons, List.length_map, Option.toArray_some, Option.toArray_none, Int.toNat_natCast, slOf, TyK.agg, vcells, splice, strip, stripP, gOf, allP, rowV, toDs, toD, toA, toAs, headOps, tailOps, isT, addN, Op.operands, Call.operands, List.map_cons, List.map_nil, List.drop_zero, List.drop_succ_cons, List.take_succ_cons, List.take_zero, List.length_cons, List.length_nil, List.getElem?_cons_zero, List.getElem?_cons_succ, List.getElem?_toArray, Option.bind_some, Option.map_some, Option.map_none, List.append_nil, List.nil_append, List.cons_append, if_true, if_false, reduceIte, Nat.reduceEqDiff, Nat.reduceAdd, Nat.reduceSub, Int.reduceToNat, Nat.reduceLeDiff, Nat.reduceLT, and_false, and_self, Nat.zero_add, Nat.add_zero, reduceCtorEq, Option.getD_some, Option.getD_none, Option.isSome_some, Option.isSome_none, forall_const, true_and, and_true, true_implies, Bool.true_and, Bool.false_and, Bool.and_true, Bool.and_false, Bool.true_or, Bool.false_or, Bool.or_true, Bool.or_false, beq_self_eq_true, zipM, zcells, Value.cells, Value.oneCell', List.toList_toArray, Array.toList_append, Bool.not_not, List.cons.injEq, Int.reduceEq, eq_self, false_and, Bool.not_true, Bool.not_false, ne_eq, not_false_eq_true, imp_self, implies_true, av_bt, av_bf, av_and, av_or, av_nf, av_tt, av_n1, av_n2, av_t1, av_tp, retQ, retL, resV, RetV, RetOk, SubL, entD_len, entD_take, entD_hd, entD_ln, entD_ic, entD_d1, entD_d2, entD_d3, entD_d4, entD_d5, entD_d6, entD_d7, homD_len, homD_take, homD_hd, homD_ln, homD_ic, homD_d1, homD_d2, intD_len, intD_take, intD_hd, intD_ln, intD_ic, ty_39, ty_3, ty_22, ty_30, ty_4, ty_26, ty_5, hv, hb1, hb2, hb3, hb4, hz, hn3]; try simp (disch := omega) only [av_w, av_t1, av_tp, Int.toNat_natCast]))
      exact Sub.of_eq (congrArg aB (by simp))
    | false =>
      rw [(hlast.2 hc)] at hA2
      obtain ⟨kk, hkk⟩ : ∃ kk : Nat, kk = at_.toNat % (askedL xs person).1.length := ⟨_, rfl⟩
      have hkl : kk < (askedL xs person).1.length := by rw [hkk]; exact Nat.mod_lt _ hpos
      have hrem : Int.tmod at_ ((askedL xs person).1.length : Int) = (kk : Int) := by
        obtain ⟨m, hm⟩ : ∃ m : Nat, at_ = m := ⟨at_.toNat, by omega⟩
        rw [Int.tmod_eq_emod_of_nonneg hat'.1, hkk, hm, Int.toNat_natCast, Int.natCast_emod]
      have hki := hin ((askedL xs person).1.getD kk 0) (by simp [List.getD, hkl])
      have hA3 := hagents_spec l ((askedL xs person).1.getD kk 0) day time hl hk
      have hW3 := hwhere_spec l ((askedL xs person).1.getD kk 0) day time hl hk
      rw [(hf.at hki).errO, hag _ hki, asked_from hc hkl] at hA3
      rw [(hf.at hki).errO, hwh _ hki, home_from hc hkl] at hW3
      have hS := sameInts_spec ((askedL xs person).1.drop kk) ((askedL xs person).1.drop kk) (by rw [List.length_drop]; omega)
      have hS' : Spec Try.prog 21 [aIs ((askedL xs person).1.drop kk), .one (.sl 1 (intD 0) (((askedL xs person).1.map intD).drop kk))] (.r1 (aB (decide ((askedL xs person).1.drop kk = (askedL xs person).1.drop kk)))) := hS.args ⟨Sub.refl _, Sub.sl (by rw [List.map_drop]), trivial⟩
      have hn1 : (((1 : Nat) : Int) == 0) = false := rfl
      have hn2 : decide (((1 : Nat) : Int) > 1) = false := by decide
      have hn3 : ((0 : Int) != 0) = false := rfl
      repeat' (first
        | (with_reducible refine aw_seq ?_)
        | ((with_reducible refine twoG_intro ?_ ?_) <;> intro hTw <;> first | (exact Bool.noConfusion hTw) | ((try simp only [hTw, Bool.not_true, Bool.not_false, Bool.true_and, Bool.false_and, Bool.and_true, Bool.and_false, Bool.true_or, Bool.false_or, Bool.or_true, Bool.or_false]); (first | (guard_hyp hTw : true = true; clear hTw) | (guard_hyp hTw : false = false; clear hTw) | (revert hTw; intro _))))
        | ((with_reducible refine two_intro ?_ ?_) <;> intro hTw <;> first | (exact Bool.noConfusion hTw) | ((first | (guard_hyp hTw : true = true; clear hTw) | (guard_hyp hTw : false = false; clear hTw) | (revert hTw; intro _))))
        | ((with_reducible refine And.intro ?_ ?_); (focus (first | exact eqHome | omega | rfl | decide | grind)))
        | (with_reducible refine aw_block ?_)
        | (with_reducible refine aw_scope ?_)
        | ((first
            | ((with_reducible refine aw_regionA T_ok ?_ ?_); (focus kernel_rfl))
            | ((with_reducible refine aw_drawnA T_ok ?_ ?_ ?_ ?_); (focus kernel_rfl); (focus kernel_rfl); (focus kernel_rfl))
            | ((with_reducible refine callK_intro (hsane_spec) (by with_unfolding_all rfl) ?_ ?_); (focus kernel_rfl))
            | ((with_reducible refine callI_spec (hsane_spec) (by with_unfolding_all rfl) ?_ ?_ ?_); (focus kernel_rfl); (focus kernel_rfl))
            | ((with_reducible refine callK_intro (hvalid_spec l person day time hl) (by with_unfolding_all rfl) ?_ ?_); (focus kernel_rfl))
            | ((with_reducible refine callI_spec (hvalid_spec l person day time hl) (by with_unfolding_all rfl) ?_ ?_ ?_); (focus kernel_rfl); (focus kernel_rfl))
            | ((with_reducible refine callK_intro (hA) (by with_unfolding_all rfl) ?_ ?_); (focus kernel_rfl))
            | ((with_reducible refine callI_spec (hA) (by with_unfolding_all rfl) ?_ ?_ ?_); (focus kernel_rfl); (focus kernel_rfl))
            | ((with_reducible refine callK_intro (hW) (by with_unfolding_all rfl) ?_ ?_); (focus kernel_rfl))
            | ((with_reducible refine callI_spec (hW) (by with_unfolding_all rfl) ?_ ?_ ?_); (focus kernel_rfl); (focus kernel_rfl))
            | ((with_reducible refine callK_intro (hA2) (by with_unfolding_all rfl) ?_ ?_); (focus kernel_rfl))
            | ((with_reducible refine callI_spec (hA2) (by with_unfolding_all rfl) ?_ ?_ ?_); (focus kernel_rfl); (focus kernel_rfl))
            | ((with_reducible refine callK_intro (hA3) (by with_unfolding_all rfl) ?_ ?_); (focus kernel_rfl))
            | ((with_reducible refine callI_spec (hA3) (by with_unfolding_all rfl) ?_ ?_ ?_); (focus kernel_rfl); (focus kernel_rfl))
            | ((with_reducible refine callK_intro (hW3) (by with_unfolding_all rfl) ?_ ?_); (focus kernel_rfl))
            | ((with_reducible refine callI_spec (hW3) (by with_unfolding_all rfl) ?_ ?_ ?_); (focus kernel_rfl); (focus kernel_rfl))
            | ((with_reducible refine callK_intro (hS') (by with_unfolding_all rfl) ?_ ?_); (focus kernel_rfl))
            | ((with_reducible refine callI_spec (hS') (by with_unfolding_all rfl) ?_ ?_ ?_); (focus kernel_rfl); (focus kernel_rfl))
            | (with_reducible refine aw_label ?_)
            | ((with_reducible refine aw_rfM ?_ ?_); (focus kernel_rfl))
            | (with_reducible refine aw_skip ?_)
            | (with_reducible refine aw_exit ?_)
            | ((with_reducible refine aw_condM ?_ ?_); (focus kernel_rfl))
            | (with_reducible refine aw_ret ?_)
          ); simp only [↓rwp.eq_def, ↓sop.eq_def, ↓slotK.eq_def, inV, shT, unT, inQ, rfQ, rfEnd, resOf, pickT, setP, ydA, ydQ, rowW, vD, fillV,  ↓gop.eq_def, ↓hop.eq_def, ↓hopH.eq_def, ↓hwp.eq_def, ↓ldV.eq_def, ↓ldK.eq_def, ↓ixK.eq_def, ↓addOff.eq_def, ↓exK.eq_def, ↓notK.eq_def, ↓pickK.eq_def, ↓iop2.eq_def, ↓binK.eq_def, ↓eqop.eq_def, icells, ↓iop.eq_def, ↓cutK.eq_def, ↓lenK.eq_def, ↓lenM.eq_def, tyInt, ↓lookK.eq_def, ↓mpK.eq_def, keyV, allI, fitK, lkM, upM, dlM, kq, ↓cvK.eq_def, ↓mmK.eq_def, ↓biK.eq_def, ↓stK.eq_def, ↓apK.eq_def, ↓apD.eq_def, ↓apS.eq_def, nxt, put, setT, setB, delB, lkT_n, lkT_c, lkB_n, lkB_c, ev, ofC, inT, ofA, ofRet, dV_n, dV_c, getD_enc, toDs_dV, List.head?_cons, List.length_map, Option.toArray_some, Option.toArray_none, Int.toNat_natCast, slOf, TyK.agg, vcells, splice, strip, stripP, gOf, allP, rowV, toDs, toD, toA, toAs, headOps, tailOps, isT, addN, Op.operands, Call.operands, List.map_cons, List.map_nil, List.drop_zero, List.drop_succ_cons, List.take_succ_cons, List.take_zero, List.length_cons, List.length_nil, List.getElem?_cons_zero, List.getElem?_cons_succ, List.getElem?_toArray, Option.bind_some, Option.map_some, Option.map_none, List.append_nil, List.nil_append, List.cons_append, if_true, if_false, reduceIte, Nat.reduceEqDiff, Nat.reduceAdd, Nat.reduceSub, Int.reduceToNat, Nat.reduceLeDiff, Nat.reduceLT, and_false, and_self, Nat.zero_add, Nat.add_zero, reduceCtorEq, Option.getD_some, Option.getD_none, Option.isSome_some, Option.isSome_none, forall_const, true_and, and_true, true_implies, Bool.true_and, Bool.false_and, Bool.and_true, Bool.and_false, Bool.true_or, Bool.false_or, Bool.or_true, Bool.or_false, beq_self_eq_true, zipM, zcells, Value.cells, Value.oneCell', List.toList_toArray, Array.toList_append, Bool.not_not, List.cons.injEq, Int.reduceEq, eq_self, false_and, Bool.not_true, Bool.not_false, ne_eq, not_false_eq_true, imp_self, implies_true, av_bt, av_bf, av_and, av_or, av_nf, av_tt, av_n1, av_n2, av_t1, av_tp, retQ, retL, resV, RetV, RetOk, SubL, entD_len, entD_take, entD_hd, entD_ln, entD_ic, entD_d1, entD_d2, entD_d3, entD_d4, entD_d5, entD_d6, entD_d7, homD_len, homD_take, homD_hd, homD_ln, homD_ic, homD_d1, homD_d2, intD_len, intD_take, intD_hd, intD_ln, intD_ic, ty_39, ty_3, ty_22, ty_30, ty_4, ty_26, ty_5, hv, hb1, hb2, hz, hrem, hn1, hn2, hn3]; try simp (disch := omega) only [av_w, av_t1, av_tp, Int.toNat_natCast]))
      all_goals exact Sub.of_eq (congrArg aB (by simp))
end Go.Proofs.Ytfmefdeldgmhpaa

namespace Go.Proofs.Ytfmefdeldgmhpaa
set_option linter.unusedSimpArgs false
set_option linter.unusedVariables false
open Go.RowKit
set_option maxRecDepth 100000
set_option maxHeartbeats 4000000
def nb (o : Option Ent) : Int := match o with
  | some e => e.b
  | none => 0
theorem lastK_take (κ a : Int) (xs : List Ent) (j : Nat) (h : j < xs.length) : lastK κ a (xs.take (j + 1)) = if (xs.getD j default).kind = κ ∧ (xs.getD j default).a = a then some (xs.getD j default) else lastK κ a (xs.take j) := by
  rw [List.take_succ_eq_append_getElem h]
  have : xs.getD j default = xs[j] := by simp [List.getD, h]
  rw [this, lastK, List.foldl_append]
  rfl
theorem not_take {l : List Int} (hd : l.Nodup) {k : Nat} (hk : k < l.length) : l.getD k 0 ∉ l.take k := by
  have e : l.getD k 0 = l[k] := by simp [List.getD, hk]
  rw [e]
  intro hm
  obtain ⟨i, hi, h⟩ := List.getElem_of_mem hm
  rw [List.getElem_take] at h
  rw [List.length_take] at hi
  have := (List.getElem_inj hd).1 h
  omega
def homeP (cc : Bool) (person z : Int) (xs : List Ent) : HomeR :=
  if cc = true then ⟨2, person, 0⟩ else
  if ((lastK 3 z xs).isSome || (lastK 4 z xs).isSome) = true then ⟨3, z, 0⟩ else
  match lastK 1 z xs with
  | some e => ⟨1, z, e.b⟩
  | none => ⟨2, z, 0⟩
theorem subVs_hom (ρ : List (Nat × Option Nat)) (x : HomeR) : subVs ρ (dV (homD x)) (dV (homD x)) := subVs_dV _ (homD x) (by intro d hd; simp only [homD, List.mem_cons, List.not_mem_nil, or_false] at hd; rcases hd with rfl | rfl | rfl <;> rfl)
abbrev vIs (l : List Int) : V := .d (.sl 1 (intD 0) (l.map intD))
theorem law4_spec (l : List Ent) (person day time : Int) (ho : l.length ≤ 140737488351232 ∧ ∀ x ∈ l, OkE x) : Spec Try.prog 4 [aEs l, aI person, aI day, aI time] (.r1 (aB true)) := by
  obtain ⟨hl, hk'⟩ := ho
  have hk := okE_kind hk'
  refine spec_of T_ok Try.func4 (by dsimp only [Try.f4]) rfl rfl (by simp) fun w F => ?_
  cases hv : validL l person day time with
  | false =>
    repeat' (first
      | (with_reducible refine aw_seq ?_)
      | ((with_reducible refine twoG_intro ?_ ?_) <;> intro hTw <;> first | (exact Bool.noConfusion hTw) | ((try simp only [hTw, Bool.not_true, Bool.not_false, Bool.true_and, Bool.false_and, Bool.and_true, Bool.and_false, Bool.true_or, Bool.false_or, Bool.or_true, Bool.or_false]); (first | (guard_hyp hTw : true = true; clear hTw) | (guard_hyp hTw : false = false; clear hTw) | (revert hTw; intro _))))
      | ((with_reducible refine two_intro ?_ ?_) <;> intro hTw <;> first | (exact Bool.noConfusion hTw) | ((first | (guard_hyp hTw : true = true; clear hTw) | (guard_hyp hTw : false = false; clear hTw) | (revert hTw; intro _))))
      | ((with_reducible refine And.intro ?_ ?_); (focus (first | exact eqHome | omega | rfl | decide | grind)))
      | (with_reducible refine aw_block ?_)
      | (with_reducible refine aw_scope ?_)
      | ((first
          | ((with_reducible refine aw_regionA T_ok ?_ ?_); (focus kernel_rfl))
          | ((with_reducible refine aw_drawnA T_ok ?_ ?_ ?_ ?_); (focus kernel_rfl); (focus kernel_rfl); (focus kernel_rfl))
          | ((with_reducible refine callK_intro (hsane_spec) (by with_unfolding_all rfl) ?_ ?_); (focus kernel_rfl))
          | ((with_reducible refine callI_spec (hsane_spec) (by with_unfolding_all rfl) ?_ ?_ ?_); (focus kernel_rfl); (focus kernel_rfl))
          | ((with_reducible refine callK_intro (hvalid_spec l person day time hl) (by with_unfolding_all rfl) ?_ ?_); (focus kernel_rfl))
          | ((with_reducible refine callI_spec (hvalid_spec l person day time hl) (by with_unfolding_all rfl) ?_ ?_ ?_); (focus kernel_rfl); (focus kernel_rfl))
          | (with_reducible refine aw_label ?_)
          | ((with_reducible refine aw_rfM ?_ ?_); (focus kernel_rfl))
          | (with_reducible refine aw_skip ?_)
          | (with_reducible refine aw_exit ?_)
          | ((with_reducible refine aw_condM ?_ ?_); (focus kernel_rfl))
          | (with_reducible refine aw_ret ?_)
        ); simp only [↓rwp.eq_def, ↓sop.eq_def, ↓slotK.eq_def, inV, shT, unT, inQ, rfQ, rfEnd, resOf, pickT, setP, ydA, ydQ, rowW, vD, fillV,  ↓gop.eq_def, ↓hop.eq_def, ↓hopH.eq_def, ↓hwp.eq_def, ↓ldV.eq_def, ↓ldK.eq_def, ↓ixK.eq_def, ↓addOff.eq_def, ↓exK.eq_def, ↓notK.eq_def, ↓pickK.eq_def, ↓iop2.eq_def, ↓binK.eq_def, ↓eqop.eq_def, icells, ↓iop.eq_def, ↓cutK.eq_def, ↓lenK.eq_def, ↓lenM.eq_def, tyInt, ↓lookK.eq_def, ↓mpK.eq_def, keyV, allI, fitK, lkM, upM, dlM, kq, ↓cvK.eq_def, ↓mmK.eq_def, ↓biK.eq_def, ↓stK.eq_def, ↓apK.eq_def, ↓apD.eq_def, ↓apS.eq_def, nxt, put, setT, setB, delB, lkT_n, lkT_c, lkB_n, lkB_c, ev, ofC, inT, ofA, ofRet, dV_n, dV_c, getD_enc, toDs_dV, List.head?_cons, List.length_map, Option.toArray_some, Option.toArray_none, Int.toNat_natCast, slOf, TyK.agg, vcells, splice, strip, stripP, gOf, allP, rowV, toDs, toD, toA, toAs, headOps, tailOps, isT, addN, Op.operands, Call.operands, List.map_cons, List.map_nil, List.drop_zero, List.drop_succ_cons, List.take_succ_cons, List.take_zero, List.length_cons, List.length_nil, List.getElem?_cons_zero, List.getElem?_cons_succ, List.getElem?_toArray, Option.bind_some, Option.map_some, Option.map_none, List.append_nil, List.nil_append, List.cons_append, if_true, if_false, reduceIte, Nat.reduceEqDiff, Nat.reduceAdd, Nat.reduceSub, Int.reduceToNat, Nat.reduceLeDiff, Nat.reduceLT, and_false, and_self, Nat.zero_add, Nat.add_zero, reduceCtorEq, Option.getD_some, Option.getD_none, Option.isSome_some, Option.isSome_none, forall_const, true_and, and_true, true_implies, Bool.true_and, Bool.false_and, Bool.and_true, Bool.and_false, Bool.true_or, Bool.false_or, Bool.or_true, Bool.or_false, beq_self_eq_true, zipM, zcells, Value.cells, Value.oneCell', List.toList_toArray, Array.toList_append, Bool.not_not, List.cons.injEq, Int.reduceEq, eq_self, false_and, Bool.not_true, Bool.not_false, ne_eq, not_false_eq_true, imp_self, implies_true, av_bt, av_bf, av_and, av_or, av_nf, av_tt, av_n1, av_n2, av_t1, av_tp, retQ, retL, resV, RetV, RetOk, SubL, entD_len, entD_take, entD_hd, entD_ln, entD_ic, entD_d1, entD_d2, entD_d3, entD_d4, entD_d5, entD_d6, entD_d7, homD_len, homD_take, homD_hd, homD_ln, homD_ic, homD_d1, homD_d2, intD_len, intD_take, intD_hd, intD_ln, intD_ic, ty_39, ty_3, ty_22, ty_30, ty_4, ty_26, hv]; try simp (disch := omega) only [av_w, av_t1, av_tp, Int.toNat_natCast]))
    exact Sub.refl _
  | true =>
    have hf := fineL_of hv
    have h24 := hf.few
    have hE := hf.errO
    have hA := hagents_spec l person day time hl hk
    have hW := hwhere_spec l person day time hl hk
    have hS := gstanding_spec l day time hl hk
    rw [hE] at hA hW
    have hv2 := stand_valid hf.errS
    have hxl := stand_len l day time
    obtain ⟨xs, hxs⟩ : ∃ xs, xs = standE l day time := ⟨_, rfl⟩
    rw [← hxs] at hv2 hxl
    rw [← hxs, hf.errS] at hS
    have hlen := agentsL_len l person day time hE
    rw [show agentsL l person day time = (askedL xs person).1 by rw [agentsL, if_pos hE, hxs]] at hA hlen
    rw [show whereL l person day time = homeK xs person by rw [whereL, if_pos hE, hxs]] at hW
    obtain ⟨⟨r, hr⟩, hnd, o, hpath, hcirc, hopen⟩ := asked_spec xs person
    rw [show homeK xs person = homeP (askedL xs person).2 person (lastOf (askedL xs person).1 person) xs from rfl] at hW
    have hz := lastI (askedL xs person).1 person (asked_ne xs person)
    obtain ⟨ps, hps⟩ : ∃ ps, ps = (askedL xs person).1 := ⟨_, rfl⟩
    obtain ⟨cc, hcc⟩ : ∃ cc, cc = (askedL xs person).2 := ⟨_, rfl⟩
    rw [← hps] at hA hlen hW hr hnd hpath hcirc hz
    rw [← hcc] at hW hcirc hopen
    obtain ⟨z, hzz⟩ : ∃ z, z = lastOf ps person := ⟨_, rfl⟩
    rw [← hzz] at hW hz
    have hpos : 0 < ps.length := by rw [hr]; simp
    have h0 : ps.getD 0 0 = person := by rw [hr]; rfl
    have hb1 : ((ps.length : Int) == 0) = false := by rw [beq_eq_false_iff_ne]; omega
    have hb2 : decide ((ps.length : Int) > (l.length : Int) + 1) = false := decide_eq_false (by omega)
    have hb3 : (person != person) = false := by simp
    obtain ⟨H, hH⟩ : ∃ H, H = homeP cc person z xs := ⟨_, rfl⟩
    rw [← hH] at hW
    repeat' (first
      | (with_reducible refine aw_seq ?_)
      | ((with_reducible refine twoG_intro ?_ ?_) <;> intro hTw <;> first | (exact Bool.noConfusion hTw) | ((try simp only [hTw, Bool.not_true, Bool.not_false, Bool.true_and, Bool.false_and, Bool.and_true, Bool.and_false, Bool.true_or, Bool.false_or, Bool.or_true, Bool.or_false]); (first | (guard_hyp hTw : true = true; clear hTw) | (guard_hyp hTw : false = false; clear hTw) | (revert hTw; intro _))))
      | ((with_reducible refine two_intro ?_ ?_) <;> intro hTw <;> first | (exact Bool.noConfusion hTw) | ((first | (guard_hyp hTw : true = true; clear hTw) | (guard_hyp hTw : false = false; clear hTw) | (revert hTw; intro _))))
      | ((with_reducible refine And.intro ?_ ?_); (focus (first | exact eqHome | omega | rfl | decide | grind)))
      | (with_reducible refine aw_block ?_)
      | (with_reducible refine aw_scope ?_)
      | ((first
          | ((with_reducible refine aw_regionA T_ok ?_ ?_); (focus kernel_rfl))
          | ((with_reducible refine aw_drawnA T_ok ?_ ?_ ?_ ?_); (focus kernel_rfl); (focus kernel_rfl); (focus kernel_rfl))
          | ((with_reducible refine callK_intro (hsane_spec) (by with_unfolding_all rfl) ?_ ?_); (focus kernel_rfl))
          | ((with_reducible refine callI_spec (hsane_spec) (by with_unfolding_all rfl) ?_ ?_ ?_); (focus kernel_rfl); (focus kernel_rfl))
          | ((with_reducible refine callK_intro (hvalid_spec l person day time hl) (by with_unfolding_all rfl) ?_ ?_); (focus kernel_rfl))
          | ((with_reducible refine callI_spec (hvalid_spec l person day time hl) (by with_unfolding_all rfl) ?_ ?_ ?_); (focus kernel_rfl); (focus kernel_rfl))
          | ((with_reducible refine callK_intro (hS) (by with_unfolding_all rfl) ?_ ?_); (focus kernel_rfl))
          | ((with_reducible refine callI_spec (hS) (by with_unfolding_all rfl) ?_ ?_ ?_); (focus kernel_rfl); (focus kernel_rfl))
          | ((with_reducible refine callK_intro (hA) (by with_unfolding_all rfl) ?_ ?_); (focus kernel_rfl))
          | ((with_reducible refine callI_spec (hA) (by with_unfolding_all rfl) ?_ ?_ ?_); (focus kernel_rfl); (focus kernel_rfl))
          | ((with_reducible refine callK_intro (hW) (by with_unfolding_all rfl) ?_ ?_); (focus kernel_rfl))
          | ((with_reducible refine callI_spec (hW) (by with_unfolding_all rfl) ?_ ?_ ?_); (focus kernel_rfl); (focus kernel_rfl))
          | (with_reducible refine aw_label ?_)
          | ((with_reducible refine aw_rfM ?_ ?_); (focus kernel_rfl))
          | (with_reducible refine aw_skip ?_)
          | (with_reducible refine aw_exit ?_)
          | ((with_reducible refine aw_condM ?_ ?_); (focus kernel_rfl))
          | (with_reducible refine aw_ret ?_)
        ); simp only [↓rwp.eq_def, ↓sop.eq_def, ↓slotK.eq_def, inV, shT, unT, inQ, rfQ, rfEnd, resOf, pickT, setP, ydA, ydQ, rowW, vD, fillV,  ↓gop.eq_def, ↓hop.eq_def, ↓hopH.eq_def, ↓hwp.eq_def, ↓ldV.eq_def, ↓ldK.eq_def, ↓ixK.eq_def, ↓addOff.eq_def, ↓exK.eq_def, ↓notK.eq_def, ↓pickK.eq_def, ↓iop2.eq_def, ↓binK.eq_def, ↓eqop.eq_def, icells, ↓iop.eq_def, ↓cutK.eq_def, ↓lenK.eq_def, ↓lenM.eq_def, tyInt, ↓lookK.eq_def, ↓mpK.eq_def, keyV, allI, fitK, lkM, upM, dlM, kq, ↓cvK.eq_def, ↓mmK.eq_def, ↓biK.eq_def, ↓stK.eq_def, ↓apK.eq_def, ↓apD.eq_def, ↓apS.eq_def, nxt, put, setT, setB, delB, lkT_n, lkT_c, lkB_n, lkB_c, ev, ofC, inT, ofA, ofRet, dV_n, dV_c, getD_enc, toDs_dV, List.head?_cons, List.length_map, Option.toArray_some, Option.toArray_none, Int.toNat_natCast, slOf, TyK.agg, vcells, splice, strip, stripP, gOf, allP, rowV, toDs, toD, toA, toAs, headOps, tailOps, isT, addN, Op.operands, Call.operands, List.map_cons, List.map_nil, List.drop_zero, List.drop_succ_cons, List.take_succ_cons, List.take_zero, List.length_cons, List.length_nil, List.getElem?_cons_zero, List.getElem?_cons_succ, List.getElem?_toArray, Option.bind_some, Option.map_some, Option.map_none, List.append_nil, List.nil_append, List.cons_append, if_true, if_false, reduceIte, Nat.reduceEqDiff, Nat.reduceAdd, Nat.reduceSub, Int.reduceToNat, Nat.reduceLeDiff, Nat.reduceLT, and_false, and_self, Nat.zero_add, Nat.add_zero, reduceCtorEq, Option.getD_some, Option.getD_none, Option.isSome_some, Option.isSome_none, forall_const, true_and, and_true, true_implies, Bool.true_and, Bool.false_and, Bool.and_true, Bool.and_false, Bool.true_or, Bool.false_or, Bool.or_true, Bool.or_false, beq_self_eq_true, zipM, zcells, Value.cells, Value.oneCell', List.toList_toArray, Array.toList_append, Bool.not_not, List.cons.injEq, Int.reduceEq, eq_self, false_and, Bool.not_true, Bool.not_false, ne_eq, not_false_eq_true, imp_self, implies_true, av_bt, av_bf, av_and, av_or, av_nf, av_tt, av_n1, av_n2, av_t1, av_tp, retQ, retL, resV, RetV, RetOk, SubL, entD_len, entD_take, entD_hd, entD_ln, entD_ic, entD_d1, entD_d2, entD_d3, entD_d4, entD_d5, entD_d6, entD_d7, homD_len, homD_take, homD_hd, homD_ln, homD_ic, homD_d1, homD_d2, intD_len, intD_take, intD_hd, intD_ln, intD_ic, ty_39, ty_3, ty_22, ty_30, ty_4, ty_26, hv, hb1, hb2, hb3, hz, h0]; try simp (disch := omega) only [av_w, av_t1, av_tp, Int.toNat_natCast]))
    refine aw_loopI (fun k : Nat => ⟨[(0, vEs l), (1, vI person), (2, vI day), (3, vI time), (9, vEs xs), (11, vIs ps), (13, .ptr 0 0), (15, vI z), (16, vB (decide (k = ps.length) && cc)), (17, vB false), (18, vB false), (19, vI 0), (95, vIs ps), (96, vI ps.length), (97, vI k)], [(0, .cells 26 (dV (homD H)))], 1⟩) (fun k => k ≤ ps.length) (fun k => ps.length - k) 0 (Nat.zero_le _) (wk_of [(0, some 0)] rfl rfl ?_ ?_) ?_
    · simp only [wkT, wkB, wkB1, subV, subVs, subD, subB, lkN_n, lkN_c, lkT_n, lkT_c, lkB_n, lkB_c, if_true, if_false, reduceIte, Nat.reduceEqDiff, true_and, and_true, and_self, inT, ofA]
      refine ⟨?_, ?_⟩
      · simp; omega
      · (repeat' (first | exact trivial | rfl | exact rfl | refine And.intro ?_ ?_))
    · simp only [wkT, wkB, wkB1, subV, subVs, subD, subB, lkN_n, lkN_c, lkT_n, lkT_c, lkB_n, lkB_c, if_true, if_false, reduceIte, Nat.reduceEqDiff, true_and, and_true, and_self, inT, ofA]
      exact subVs_hom _ H
    intro k hk1
    rcases Nat.lt_or_ge k ps.length with hlt | hge
    · have hd := ltd hlt
      have hnx := path_at hpath k hlt
      have hm1 : decide (ps.getD k 0 ∈ ps.take k) = false := decide_eq_false (not_take hnd hlt)
      obtain ⟨p, hp⟩ : ∃ p, p = ps.getD k 0 := ⟨_, rfl⟩
      rw [← hp] at hnx hm1
      have hH1 : Spec Try.prog 24 [.one (.sl 1 (intD 0) ((ps.map intD).take k)), aI p] (.r1 (aB (decide (p ∈ ps.take k)))) := (has_spec (ps.take k) p (by rw [List.length_take]; omega)).args ⟨Sub.sl (by rw [List.map_take]), Sub.refl _, trivial⟩
      repeat' (first
        | (with_reducible refine aw_seq ?_)
        | ((with_reducible refine twoG_intro ?_ ?_) <;> intro hTw <;> first | (exact Bool.noConfusion hTw) | ((try simp only [hTw, Bool.not_true, Bool.not_false, Bool.true_and, Bool.false_and, Bool.and_true, Bool.and_false, Bool.true_or, Bool.false_or, Bool.or_true, Bool.or_false]); (first | (guard_hyp hTw : true = true; clear hTw) | (guard_hyp hTw : false = false; clear hTw) | (revert hTw; intro _))))
        | ((with_reducible refine two_intro ?_ ?_) <;> intro hTw <;> first | (exact Bool.noConfusion hTw) | ((first | (guard_hyp hTw : true = true; clear hTw) | (guard_hyp hTw : false = false; clear hTw) | (revert hTw; intro _))))
        | ((with_reducible refine And.intro ?_ ?_); (focus (first | exact eqHome | omega | rfl | decide | grind)))
        | (with_reducible refine aw_block ?_)
        | (with_reducible refine aw_scope ?_)
        | ((first
            | ((with_reducible refine aw_regionA T_ok ?_ ?_); (focus kernel_rfl))
            | ((with_reducible refine aw_drawnA T_ok ?_ ?_ ?_ ?_); (focus kernel_rfl); (focus kernel_rfl); (focus kernel_rfl))
            | ((with_reducible refine callK_intro (hH1) (by with_unfolding_all rfl) ?_ ?_); (focus kernel_rfl))
            | ((with_reducible refine callI_spec (hH1) (by with_unfolding_all rfl) ?_ ?_ ?_); (focus kernel_rfl); (focus kernel_rfl))
            | (with_reducible refine aw_label ?_)
            | ((with_reducible refine aw_rfM ?_ ?_); (focus kernel_rfl))
            | (with_reducible refine aw_skip ?_)
            | (with_reducible refine aw_exit ?_)
            | ((with_reducible refine aw_condM ?_ ?_); (focus kernel_rfl))
            | (with_reducible refine aw_ret ?_)
          ); simp only [↓rwp.eq_def, ↓sop.eq_def, ↓slotK.eq_def, inV, shT, unT, inQ, rfQ, rfEnd, resOf, pickT, setP, ydA, ydQ, rowW, vD, fillV,  ↓gop.eq_def, ↓hop.eq_def, ↓hopH.eq_def, ↓hwp.eq_def, ↓ldV.eq_def, ↓ldK.eq_def, ↓ixK.eq_def, ↓addOff.eq_def, ↓exK.eq_def, ↓notK.eq_def, ↓pickK.eq_def, ↓iop2.eq_def, ↓binK.eq_def, ↓eqop.eq_def, icells, ↓iop.eq_def, ↓cutK.eq_def, ↓lenK.eq_def, ↓lenM.eq_def, tyInt, ↓lookK.eq_def, ↓mpK.eq_def, keyV, allI, fitK, lkM, upM, dlM, kq, ↓cvK.eq_def, ↓mmK.eq_def, ↓biK.eq_def, ↓stK.eq_def, ↓apK.eq_def, ↓apD.eq_def, ↓apS.eq_def, nxt, put, setT, setB, delB, lkT_n, lkT_c, lkB_n, lkB_c, ev, ofC, inT, ofA, ofRet, dV_n, dV_c, getD_enc, toDs_dV, List.head?_cons, List.length_map, Option.toArray_some, Option.toArray_none, Int.toNat_natCast, slOf, TyK.agg, vcells, splice, strip, stripP, gOf, allP, rowV, toDs, toD, toA, toAs, headOps, tailOps, isT, addN, Op.operands, Call.operands, List.map_cons, List.map_nil, List.drop_zero, List.drop_succ_cons, List.take_succ_cons, List.take_zero, List.length_cons, List.length_nil, List.getElem?_cons_zero, List.getElem?_cons_succ, List.getElem?_toArray, Option.bind_some, Option.map_some, Option.map_none, List.append_nil, List.nil_append, List.cons_append, if_true, if_false, reduceIte, Nat.reduceEqDiff, Nat.reduceAdd, Nat.reduceSub, Int.reduceToNat, Nat.reduceLeDiff, Nat.reduceLT, and_false, and_self, Nat.zero_add, Nat.add_zero, reduceCtorEq, Option.getD_some, Option.getD_none, Option.isSome_some, Option.isSome_none, forall_const, true_and, and_true, true_implies, Bool.true_and, Bool.false_and, Bool.and_true, Bool.and_false, Bool.true_or, Bool.false_or, Bool.or_true, Bool.or_false, beq_self_eq_true, zipM, zcells, Value.cells, Value.oneCell', List.toList_toArray, Array.toList_append, Bool.not_not, List.cons.injEq, Int.reduceEq, eq_self, false_and, Bool.not_true, Bool.not_false, ne_eq, not_false_eq_true, imp_self, implies_true, av_bt, av_bf, av_and, av_or, av_nf, av_tt, av_n1, av_n2, av_t1, av_tp, retQ, retL, resV, RetV, RetOk, SubL, entD_len, entD_take, entD_hd, entD_ln, entD_ic, entD_d1, entD_d2, entD_d3, entD_d4, entD_d5, entD_d6, entD_d7, homD_len, homD_take, homD_hd, homD_ln, homD_ic, homD_d1, homD_d2, intD_len, intD_take, intD_hd, intD_ln, intD_ic, ty_39, ty_3, ty_22, ty_30, ty_4, ty_26, hd, hp.symm, hm1]; try simp (disch := omega) only [av_w, av_t1, av_tp, Int.toNat_natCast]))
      refine aw_loopI (fun j : Nat => ⟨[(0, vEs l), (1, vI person), (2, vI day), (3, vI time), (9, vEs xs), (11, vIs ps), (13, .ptr 0 0), (15, vI z), (16, vB false), (17, vB false), (18, vB false), (19, vI 0), (95, vIs ps), (96, vI ps.length), (97, vI k), (20, vI k), (21, vI p), (22, vI (nb (lastK 2 p (xs.take j)))), (23, vB (lastK 2 p (xs.take j)).isSome), (107, vEs xs), (108, vI xs.length), (109, vI j)], [(0, .cells 26 (dV (homD H)))], 1⟩) (fun j => j ≤ xs.length) (fun j => xs.length - j) 0 (Nat.zero_le _) (wk_of [(0, some 0)] rfl rfl ?_ ?_) ?_
      · simp only [wkT, wkB, wkB1, subV, subVs, subD, subB, lkN_n, lkN_c, lkT_n, lkT_c, lkB_n, lkB_c, if_true, if_false, reduceIte, Nat.reduceEqDiff, true_and, and_true, and_self, inT, ofA]
        refine ⟨?_, ?_⟩
        · have : decide (k = ps.length) = false := decide_eq_false (by omega)
          rw [this]; rfl
        · (repeat' (first | exact trivial | rfl | exact rfl | refine And.intro ?_ ?_))
      · simp only [wkT, wkB, wkB1, subV, subVs, subD, subB, lkN_n, lkN_c, lkT_n, lkT_c, lkB_n, lkB_c, if_true, if_false, reduceIte, Nat.reduceEqDiff, true_and, and_true, and_self, inT, ofA]
        exact subVs_hom _ H
      intro j hj1
      rcases Nat.lt_or_ge j xs.length with hlj | hgj
      · have hdj := ltd hlj
        have hst := lastK_take 2 p xs j hlj
        cases hc1 : ((xs.getD j default).a == p && (xs.getD j default).kind == 2) with
        | true =>
          repeat' (first
            | (with_reducible refine aw_seq ?_)
            | ((with_reducible refine twoG_intro ?_ ?_) <;> intro hTw <;> first | (exact Bool.noConfusion hTw) | ((try simp only [hTw, Bool.not_true, Bool.not_false, Bool.true_and, Bool.false_and, Bool.and_true, Bool.and_false, Bool.true_or, Bool.false_or, Bool.or_true, Bool.or_false]); (first | (guard_hyp hTw : true = true; clear hTw) | (guard_hyp hTw : false = false; clear hTw) | (revert hTw; intro _))))
            | ((with_reducible refine two_intro ?_ ?_) <;> intro hTw <;> first | (exact Bool.noConfusion hTw) | ((first | (guard_hyp hTw : true = true; clear hTw) | (guard_hyp hTw : false = false; clear hTw) | (revert hTw; intro _))))
            | ((with_reducible refine And.intro ?_ ?_); (focus (first | exact eqHome | omega | rfl | decide | grind)))
            | (with_reducible refine aw_block ?_)
            | (with_reducible refine aw_scope ?_)
            | ((first
                | ((with_reducible refine aw_regionA T_ok ?_ ?_); (focus kernel_rfl))
                | ((with_reducible refine aw_drawnA T_ok ?_ ?_ ?_ ?_); (focus kernel_rfl); (focus kernel_rfl); (focus kernel_rfl))
                | (with_reducible refine aw_label ?_)
                | ((with_reducible refine aw_rfM ?_ ?_); (focus kernel_rfl))
                | (with_reducible refine aw_skip ?_)
                | (with_reducible refine aw_exit ?_)
                | ((with_reducible refine aw_condM ?_ ?_); (focus kernel_rfl))
                | (with_reducible refine aw_ret ?_)
              ); simp only [↓rwp.eq_def, ↓sop.eq_def, ↓slotK.eq_def, inV, shT, unT, inQ, rfQ, rfEnd, resOf, pickT, setP, ydA, ydQ, rowW, vD, fillV,  ↓gop.eq_def, ↓hop.eq_def, ↓hopH.eq_def, ↓hwp.eq_def, ↓ldV.eq_def, ↓ldK.eq_def, ↓ixK.eq_def, ↓addOff.eq_def, ↓exK.eq_def, ↓notK.eq_def, ↓pickK.eq_def, ↓iop2.eq_def, ↓binK.eq_def, ↓eqop.eq_def, icells, ↓iop.eq_def, ↓cutK.eq_def, ↓lenK.eq_def, ↓lenM.eq_def, tyInt, ↓lookK.eq_def, ↓mpK.eq_def, keyV, allI, fitK, lkM, upM, dlM, kq, ↓cvK.eq_def, ↓mmK.eq_def, ↓biK.eq_def, ↓stK.eq_def, ↓apK.eq_def, ↓apD.eq_def, ↓apS.eq_def, nxt, put, setT, setB, delB, lkT_n, lkT_c, lkB_n, lkB_c, ev, ofC, inT, ofA, ofRet, dV_n, dV_c, getD_enc, toDs_dV, List.head?_cons, List.length_map, Option.toArray_some, Option.toArray_none, Int.toNat_natCast, slOf, TyK.agg, vcells, splice, strip, stripP, gOf, allP, rowV, toDs, toD, toA, toAs, headOps, tailOps, isT, addN, Op.operands, Call.operands, List.map_cons, List.map_nil, List.drop_zero, List.drop_succ_cons, List.take_succ_cons, List.take_zero, List.length_cons, List.length_nil, List.getElem?_cons_zero, List.getElem?_cons_succ, List.getElem?_toArray, Option.bind_some, Option.map_some, Option.map_none, List.append_nil, List.nil_append, List.cons_append, if_true, if_false, reduceIte, Nat.reduceEqDiff, Nat.reduceAdd, Nat.reduceSub, Int.reduceToNat, Nat.reduceLeDiff, Nat.reduceLT, and_false, and_self, Nat.zero_add, Nat.add_zero, reduceCtorEq, Option.getD_some, Option.getD_none, Option.isSome_some, Option.isSome_none, forall_const, true_and, and_true, true_implies, Bool.true_and, Bool.false_and, Bool.and_true, Bool.and_false, Bool.true_or, Bool.false_or, Bool.or_true, Bool.or_false, beq_self_eq_true, zipM, zcells, Value.cells, Value.oneCell', List.toList_toArray, Array.toList_append, Bool.not_not, List.cons.injEq, Int.reduceEq, eq_self, false_and, Bool.not_true, Bool.not_false, ne_eq, not_false_eq_true, imp_self, implies_true, av_bt, av_bf, av_and, av_or, av_nf, av_tt, av_n1, av_n2, av_t1, av_tp, retQ, retL, resV, RetV, RetOk, SubL, entD_len, entD_take, entD_hd, entD_ln, entD_ic, entD_d1, entD_d2, entD_d3, entD_d4, entD_d5, entD_d6, entD_d7, homD_len, homD_take, homD_hd, homD_ln, homD_ic, homD_d1, homD_d2, intD_len, intD_take, intD_hd, intD_ln, intD_ic, ty_39, ty_3, ty_22, ty_30, ty_4, ty_26, hdj, hc1]; try simp (disch := omega) only [av_w, av_t1, av_tp, Int.toNat_natCast]))
          rw [if_pos (by simp at hc1; exact ⟨hc1.2, hc1.1⟩)] at hst
          refine ⟨j + 1, by omega, by dsimp only; omega, wk_of [(0, some 0)] rfl rfl ?_ ?_⟩
          · simp only [wkT, wkB, wkB1, subV, subVs, subD, subB, lkN_n, lkN_c, lkT_n, lkT_c, lkB_n, lkB_c, if_true, if_false, reduceIte, Nat.reduceEqDiff, true_and, and_true, and_self, inT, ofA]
            rw [hst]
            (repeat' (first | exact trivial | rfl | exact rfl | refine And.intro ?_ ?_))
          · simp only [wkT, wkB, wkB1, subV, subVs, subD, subB, lkN_n, lkN_c, lkT_n, lkT_c, lkB_n, lkB_c, if_true, if_false, reduceIte, Nat.reduceEqDiff, true_and, and_true, and_self, inT, ofA]
            exact subVs_hom _ H
        | false =>
          repeat' (first
            | (with_reducible refine aw_seq ?_)
            | ((with_reducible refine twoG_intro ?_ ?_) <;> intro hTw <;> first | (exact Bool.noConfusion hTw) | ((try simp only [hTw, Bool.not_true, Bool.not_false, Bool.true_and, Bool.false_and, Bool.and_true, Bool.and_false, Bool.true_or, Bool.false_or, Bool.or_true, Bool.or_false]); (first | (guard_hyp hTw : true = true; clear hTw) | (guard_hyp hTw : false = false; clear hTw) | (revert hTw; intro _))))
            | ((with_reducible refine two_intro ?_ ?_) <;> intro hTw <;> first | (exact Bool.noConfusion hTw) | ((first | (guard_hyp hTw : true = true; clear hTw) | (guard_hyp hTw : false = false; clear hTw) | (revert hTw; intro _))))
            | ((with_reducible refine And.intro ?_ ?_); (focus (first | exact eqHome | omega | rfl | decide | grind)))
            | (with_reducible refine aw_block ?_)
            | (with_reducible refine aw_scope ?_)
            | ((first
                | ((with_reducible refine aw_regionA T_ok ?_ ?_); (focus kernel_rfl))
                | ((with_reducible refine aw_drawnA T_ok ?_ ?_ ?_ ?_); (focus kernel_rfl); (focus kernel_rfl); (focus kernel_rfl))
                | (with_reducible refine aw_label ?_)
                | ((with_reducible refine aw_rfM ?_ ?_); (focus kernel_rfl))
                | (with_reducible refine aw_skip ?_)
                | (with_reducible refine aw_exit ?_)
                | ((with_reducible refine aw_condM ?_ ?_); (focus kernel_rfl))
                | (with_reducible refine aw_ret ?_)
              ); simp only [↓rwp.eq_def, ↓sop.eq_def, ↓slotK.eq_def, inV, shT, unT, inQ, rfQ, rfEnd, resOf, pickT, setP, ydA, ydQ, rowW, vD, fillV,  ↓gop.eq_def, ↓hop.eq_def, ↓hopH.eq_def, ↓hwp.eq_def, ↓ldV.eq_def, ↓ldK.eq_def, ↓ixK.eq_def, ↓addOff.eq_def, ↓exK.eq_def, ↓notK.eq_def, ↓pickK.eq_def, ↓iop2.eq_def, ↓binK.eq_def, ↓eqop.eq_def, icells, ↓iop.eq_def, ↓cutK.eq_def, ↓lenK.eq_def, ↓lenM.eq_def, tyInt, ↓lookK.eq_def, ↓mpK.eq_def, keyV, allI, fitK, lkM, upM, dlM, kq, ↓cvK.eq_def, ↓mmK.eq_def, ↓biK.eq_def, ↓stK.eq_def, ↓apK.eq_def, ↓apD.eq_def, ↓apS.eq_def, nxt, put, setT, setB, delB, lkT_n, lkT_c, lkB_n, lkB_c, ev, ofC, inT, ofA, ofRet, dV_n, dV_c, getD_enc, toDs_dV, List.head?_cons, List.length_map, Option.toArray_some, Option.toArray_none, Int.toNat_natCast, slOf, TyK.agg, vcells, splice, strip, stripP, gOf, allP, rowV, toDs, toD, toA, toAs, headOps, tailOps, isT, addN, Op.operands, Call.operands, List.map_cons, List.map_nil, List.drop_zero, List.drop_succ_cons, List.take_succ_cons, List.take_zero, List.length_cons, List.length_nil, List.getElem?_cons_zero, List.getElem?_cons_succ, List.getElem?_toArray, Option.bind_some, Option.map_some, Option.map_none, List.append_nil, List.nil_append, List.cons_append, if_true, if_false, reduceIte, Nat.reduceEqDiff, Nat.reduceAdd, Nat.reduceSub, Int.reduceToNat, Nat.reduceLeDiff, Nat.reduceLT, and_false, and_self, Nat.zero_add, Nat.add_zero, reduceCtorEq, Option.getD_some, Option.getD_none, Option.isSome_some, Option.isSome_none, forall_const, true_and, and_true, true_implies, Bool.true_and, Bool.false_and, Bool.and_true, Bool.and_false, Bool.true_or, Bool.false_or, Bool.or_true, Bool.or_false, beq_self_eq_true, zipM, zcells, Value.cells, Value.oneCell', List.toList_toArray, Array.toList_append, Bool.not_not, List.cons.injEq, Int.reduceEq, eq_self, false_and, Bool.not_true, Bool.not_false, ne_eq, not_false_eq_true, imp_self, implies_true, av_bt, av_bf, av_and, av_or, av_nf, av_tt, av_n1, av_n2, av_t1, av_tp, retQ, retL, resV, RetV, RetOk, SubL, entD_len, entD_take, entD_hd, entD_ln, entD_ic, entD_d1, entD_d2, entD_d3, entD_d4, entD_d5, entD_d6, entD_d7, homD_len, homD_take, homD_hd, homD_ln, homD_ic, homD_d1, homD_d2, intD_len, intD_take, intD_hd, intD_ln, intD_ic, ty_39, ty_3, ty_22, ty_30, ty_4, ty_26, hdj, hc1]; try simp (disch := omega) only [av_w, av_t1, av_tp, Int.toNat_natCast]))
          rw [if_neg (by simp at hc1; intro h; exact hc1 h.2 h.1)] at hst
          refine ⟨j + 1, by omega, by dsimp only; omega, wk_of [(0, some 0)] rfl rfl ?_ ?_⟩
          · simp only [wkT, wkB, wkB1, subV, subVs, subD, subB, lkN_n, lkN_c, lkT_n, lkT_c, lkB_n, lkB_c, if_true, if_false, reduceIte, Nat.reduceEqDiff, true_and, and_true, and_self, inT, ofA]
            rw [hst]
            (repeat' (first | exact trivial | rfl | exact rfl | refine And.intro ?_ ?_))
          · simp only [wkT, wkB, wkB1, subV, subVs, subD, subB, lkN_n, lkN_c, lkT_n, lkT_c, lkB_n, lkB_c, if_true, if_false, reduceIte, Nat.reduceEqDiff, true_and, and_true, and_self, inT, ofA]
            exact subVs_hom _ H
      · obtain rfl : j = xs.length := by omega
        have hdj := ged (Nat.le_refl xs.length)
        rw [List.take_length]
        rcases Nat.lt_or_ge (k + 1) ps.length with hk2 | hk2
        · have hk3 : decide ((k : Int) + 1 < (ps.length : Int)) = true := decide_eq_true (by omega)
          rw [if_pos hk2] at hnx
          obtain ⟨e, he, heb⟩ : ∃ e, lastK 2 p xs = some e ∧ e.b = ps.getD (k + 1) 0 := by
            unfold nxK at hnx
            cases hL : lastK 2 p xs with
            | none => rw [hL] at hnx; cases hnx
            | some e => rw [hL] at hnx; exact ⟨e, rfl, by simpa using hnx⟩
          have hnb : nb (lastK 2 p xs) = ps.getD (k + 1) 0 := by rw [he]; exact heb
          have hsm : (lastK 2 p xs).isSome = true := by rw [he]; rfl
          have hbn : (ps.getD (k + 1) 0 != ps.getD (k + 1) 0) = false := by simp
          repeat' (first
            | (with_reducible refine aw_seq ?_)
            | ((with_reducible refine twoG_intro ?_ ?_) <;> intro hTw <;> first | (exact Bool.noConfusion hTw) | ((try simp only [hTw, Bool.not_true, Bool.not_false, Bool.true_and, Bool.false_and, Bool.and_true, Bool.and_false, Bool.true_or, Bool.false_or, Bool.or_true, Bool.or_false]); (first | (guard_hyp hTw : true = true; clear hTw) | (guard_hyp hTw : false = false; clear hTw) | (revert hTw; intro _))))
            | ((with_reducible refine two_intro ?_ ?_) <;> intro hTw <;> first | (exact Bool.noConfusion hTw) | ((first | (guard_hyp hTw : true = true; clear hTw) | (guard_hyp hTw : false = false; clear hTw) | (revert hTw; intro _))))
            | ((with_reducible refine And.intro ?_ ?_); (focus (first | exact eqHome | omega | rfl | decide | grind)))
            | (with_reducible refine aw_block ?_)
            | (with_reducible refine aw_scope ?_)
            | ((first
                | ((with_reducible refine aw_regionA T_ok ?_ ?_); (focus kernel_rfl))
                | ((with_reducible refine aw_drawnA T_ok ?_ ?_ ?_ ?_); (focus kernel_rfl); (focus kernel_rfl); (focus kernel_rfl))
                | (with_reducible refine aw_label ?_)
                | ((with_reducible refine aw_rfM ?_ ?_); (focus kernel_rfl))
                | (with_reducible refine aw_skip ?_)
                | (with_reducible refine aw_exit ?_)
                | ((with_reducible refine aw_condM ?_ ?_); (focus kernel_rfl))
                | (with_reducible refine aw_ret ?_)
              ); simp only [↓rwp.eq_def, ↓sop.eq_def, ↓slotK.eq_def, inV, shT, unT, inQ, rfQ, rfEnd, resOf, pickT, setP, ydA, ydQ, rowW, vD, fillV,  ↓gop.eq_def, ↓hop.eq_def, ↓hopH.eq_def, ↓hwp.eq_def, ↓ldV.eq_def, ↓ldK.eq_def, ↓ixK.eq_def, ↓addOff.eq_def, ↓exK.eq_def, ↓notK.eq_def, ↓pickK.eq_def, ↓iop2.eq_def, ↓binK.eq_def, ↓eqop.eq_def, icells, ↓iop.eq_def, ↓cutK.eq_def, ↓lenK.eq_def, ↓lenM.eq_def, tyInt, ↓lookK.eq_def, ↓mpK.eq_def, keyV, allI, fitK, lkM, upM, dlM, kq, ↓cvK.eq_def, ↓mmK.eq_def, ↓biK.eq_def, ↓stK.eq_def, ↓apK.eq_def, ↓apD.eq_def, ↓apS.eq_def, nxt, put, setT, setB, delB, lkT_n, lkT_c, lkB_n, lkB_c, ev, ofC, inT, ofA, ofRet, dV_n, dV_c, getD_enc, toDs_dV, List.head?_cons, List.length_map, Option.toArray_some, Option.toArray_none, Int.toNat_natCast, slOf, TyK.agg, vcells, splice, strip, stripP, gOf, allP, rowV, toDs, toD, toA, toAs, headOps, tailOps, isT, addN, Op.operands, Call.operands, List.map_cons, List.map_nil, List.drop_zero, List.drop_succ_cons, List.take_succ_cons, List.take_zero, List.length_cons, List.length_nil, List.getElem?_cons_zero, List.getElem?_cons_succ, List.getElem?_toArray, Option.bind_some, Option.map_some, Option.map_none, List.append_nil, List.nil_append, List.cons_append, if_true, if_false, reduceIte, Nat.reduceEqDiff, Nat.reduceAdd, Nat.reduceSub, Int.reduceToNat, Nat.reduceLeDiff, Nat.reduceLT, and_false, and_self, Nat.zero_add, Nat.add_zero, reduceCtorEq, Option.getD_some, Option.getD_none, Option.isSome_some, Option.isSome_none, forall_const, true_and, and_true, true_implies, Bool.true_and, Bool.false_and, Bool.and_true, Bool.and_false, Bool.true_or, Bool.false_or, Bool.or_true, Bool.or_false, beq_self_eq_true, zipM, zcells, Value.cells, Value.oneCell', List.toList_toArray, Array.toList_append, Bool.not_not, List.cons.injEq, Int.reduceEq, eq_self, false_and, Bool.not_true, Bool.not_false, ne_eq, not_false_eq_true, imp_self, implies_true, av_bt, av_bf, av_and, av_or, av_nf, av_tt, av_n1, av_n2, av_t1, av_tp, retQ, retL, resV, RetV, RetOk, SubL, entD_len, entD_take, entD_hd, entD_ln, entD_ic, entD_d1, entD_d2, entD_d3, entD_d4, entD_d5, entD_d6, entD_d7, homD_len, homD_take, homD_hd, homD_ln, homD_ic, homD_d1, homD_d2, intD_len, intD_take, intD_hd, intD_ln, intD_ic, ty_39, ty_3, ty_22, ty_30, ty_4, ty_26, hdj, hk3, hnb, hsm, hbn]; try simp (disch := omega) only [av_w, av_t1, av_tp, Int.toNat_natCast]))
          refine ⟨k + 1, by omega, by dsimp only; omega, wk_of [(0, some 0)] rfl rfl ?_ ?_⟩
          · simp only [wkT, wkB, wkB1, subV, subVs, subD, subB, lkN_n, lkN_c, lkT_n, lkT_c, lkB_n, lkB_c, if_true, if_false, reduceIte, Nat.reduceEqDiff, true_and, and_true, and_self, inT, ofA]
            refine ⟨?_, ?_⟩
            · have : decide (k + 1 = ps.length) = false := decide_eq_false (by omega)
              rw [this]; rfl
            · (repeat' (first | exact trivial | rfl | exact rfl | refine And.intro ?_ ?_))
          · simp only [wkT, wkB, wkB1, subV, subVs, subD, subB, lkN_n, lkN_c, lkT_n, lkT_c, lkB_n, lkB_c, if_true, if_false, reduceIte, Nat.reduceEqDiff, true_and, and_true, and_self, inT, ofA]
            exact subVs_hom _ H
        · have hk3 : decide ((k : Int) + 1 < (ps.length : Int)) = false := decide_eq_false (by omega)
          rw [if_neg (by omega)] at hnx
          have hdd : decide (k + 1 = ps.length) = true := decide_eq_true (by omega)
          cases hcv : cc with
          | true =>
            obtain ⟨q, ho1, hq⟩ := hcirc hcv
            rw [ho1] at hnx
            obtain ⟨e, he, heb⟩ : ∃ e, lastK 2 p xs = some e ∧ e.b = q := by
              unfold nxK at hnx
              cases hL : lastK 2 p xs with
              | none => rw [hL] at hnx; cases hnx
              | some e => rw [hL] at hnx; exact ⟨e, rfl, by simpa using hnx⟩
            have hnb : nb (lastK 2 p xs) = q := by rw [he]; exact heb
            have hsm : (lastK 2 p xs).isSome = true := by rw [he]; rfl
            have hqd : decide (q ∈ ps) = true := decide_eq_true hq
            repeat' (first
              | (with_reducible refine aw_seq ?_)
              | ((with_reducible refine twoG_intro ?_ ?_) <;> intro hTw <;> first | (exact Bool.noConfusion hTw) | ((try simp only [hTw, Bool.not_true, Bool.not_false, Bool.true_and, Bool.false_and, Bool.and_true, Bool.and_false, Bool.true_or, Bool.false_or, Bool.or_true, Bool.or_false]); (first | (guard_hyp hTw : true = true; clear hTw) | (guard_hyp hTw : false = false; clear hTw) | (revert hTw; intro _))))
              | ((with_reducible refine two_intro ?_ ?_) <;> intro hTw <;> first | (exact Bool.noConfusion hTw) | ((first | (guard_hyp hTw : true = true; clear hTw) | (guard_hyp hTw : false = false; clear hTw) | (revert hTw; intro _))))
              | ((with_reducible refine And.intro ?_ ?_); (focus (first | exact eqHome | omega | rfl | decide | grind)))
              | (with_reducible refine aw_block ?_)
              | (with_reducible refine aw_scope ?_)
              | ((first
                  | ((with_reducible refine aw_regionA T_ok ?_ ?_); (focus kernel_rfl))
                  | ((with_reducible refine aw_drawnA T_ok ?_ ?_ ?_ ?_); (focus kernel_rfl); (focus kernel_rfl); (focus kernel_rfl))
                  | ((with_reducible refine callK_intro (has_spec ps q (by omega)) (by with_unfolding_all rfl) ?_ ?_); (focus kernel_rfl))
                  | ((with_reducible refine callI_spec (has_spec ps q (by omega)) (by with_unfolding_all rfl) ?_ ?_ ?_); (focus kernel_rfl); (focus kernel_rfl))
                  | (with_reducible refine aw_label ?_)
                  | ((with_reducible refine aw_rfM ?_ ?_); (focus kernel_rfl))
                  | (with_reducible refine aw_skip ?_)
                  | (with_reducible refine aw_exit ?_)
                  | ((with_reducible refine aw_condM ?_ ?_); (focus kernel_rfl))
                  | (with_reducible refine aw_ret ?_)
                ); simp only [↓rwp.eq_def, ↓sop.eq_def, ↓slotK.eq_def, inV, shT, unT, inQ, rfQ, rfEnd, resOf, pickT, setP, ydA, ydQ, rowW, vD, fillV,  ↓gop.eq_def, ↓hop.eq_def, ↓hopH.eq_def, ↓hwp.eq_def, ↓ldV.eq_def, ↓ldK.eq_def, ↓ixK.eq_def, ↓addOff.eq_def, ↓exK.eq_def, ↓notK.eq_def, ↓pickK.eq_def, ↓iop2.eq_def, ↓binK.eq_def, ↓eqop.eq_def, icells, ↓iop.eq_def, ↓cutK.eq_def, ↓lenK.eq_def, ↓lenM.eq_def, tyInt, ↓lookK.eq_def, ↓mpK.eq_def, keyV, allI, fitK, lkM, upM, dlM, kq, ↓cvK.eq_def, ↓mmK.eq_def, ↓biK.eq_def, ↓stK.eq_def, ↓apK.eq_def, ↓apD.eq_def, ↓apS.eq_def, nxt, put, setT, setB, delB, lkT_n, lkT_c, lkB_n, lkB_c, ev, ofC, inT, ofA, ofRet, dV_n, dV_c, getD_enc, toDs_dV, List.head?_cons, List.length_map, Option.toArray_some, Option.toArray_none, Int.toNat_natCast, slOf, TyK.agg, vcells, splice, strip, stripP, gOf, allP, rowV, toDs, toD, toA, toAs, headOps, tailOps, isT, addN, Op.operands, Call.operands, List.map_cons, List.map_nil, List.drop_zero, List.drop_succ_cons, List.take_succ_cons, List.take_zero, List.length_cons, List.length_nil, List.getElem?_cons_zero, List.getElem?_cons_succ, List.getElem?_toArray, Option.bind_some, Option.map_some, Option.map_none, List.append_nil, List.nil_append, List.cons_append, if_true, if_false, reduceIte, Nat.reduceEqDiff, Nat.reduceAdd, Nat.reduceSub, Int.reduceToNat, Nat.reduceLeDiff, Nat.reduceLT, and_false, and_self, Nat.zero_add, Nat.add_zero, reduceCtorEq, Option.getD_some, Option.getD_none, Option.isSome_some, Option.isSome_none, forall_const, true_and, and_true, true_implies, Bool.true_and, Bool.false_and, Bool.and_true, Bool.and_false, Bool.true_or, Bool.false_or, Bool.or_true, Bool.or_false, beq_self_eq_true, zipM, zcells, Value.cells, Value.oneCell', List.toList_toArray, Array.toList_append, Bool.not_not, List.cons.injEq, Int.reduceEq, eq_self, false_and, Bool.not_true, Bool.not_false, ne_eq, not_false_eq_true, imp_self, implies_true, av_bt, av_bf, av_and, av_or, av_nf, av_tt, av_n1, av_n2, av_t1, av_tp, retQ, retL, resV, RetV, RetOk, SubL, entD_len, entD_take, entD_hd, entD_ln, entD_ic, entD_d1, entD_d2, entD_d3, entD_d4, entD_d5, entD_d6, entD_d7, homD_len, homD_take, homD_hd, homD_ln, homD_ic, homD_d1, homD_d2, intD_len, intD_take, intD_hd, intD_ln, intD_ic, ty_39, ty_3, ty_22, ty_30, ty_4, ty_26, hdj, hk3, hnb, hsm, hqd]; try simp (disch := omega) only [av_w, av_t1, av_tp, Int.toNat_natCast]))
            refine ⟨k + 1, by omega, by dsimp only; omega, wk_of [(0, some 0)] rfl rfl ?_ ?_⟩
            · simp only [wkT, wkB, wkB1, subV, subVs, subD, subB, lkN_n, lkN_c, lkT_n, lkT_c, lkB_n, lkB_c, if_true, if_false, reduceIte, Nat.reduceEqDiff, true_and, and_true, and_self, inT, ofA]
              rw [hdd]
              (repeat' (first | exact trivial | rfl | exact rfl | refine And.intro ?_ ?_))
            · simp only [wkT, wkB, wkB1, subV, subVs, subD, subB, lkN_n, lkN_c, lkT_n, lkT_c, lkB_n, lkB_c, if_true, if_false, reduceIte, Nat.reduceEqDiff, true_and, and_true, and_self, inT, ofA]
              exact subVs_hom _ H
          | false =>
            rw [hopen hcv] at hnx
            have hL : lastK 2 p xs = none := by
              unfold nxK at hnx
              cases hL : lastK 2 p xs with
              | none => rfl
              | some e => rw [hL] at hnx; cases hnx
            have hnb : nb (lastK 2 p xs) = 0 := by rw [hL]; rfl
            have hsm : (lastK 2 p xs).isSome = false := by rw [hL]; rfl
            repeat' (first
              | (with_reducible refine aw_seq ?_)
              | ((with_reducible refine twoG_intro ?_ ?_) <;> intro hTw <;> first | (exact Bool.noConfusion hTw) | ((try simp only [hTw, Bool.not_true, Bool.not_false, Bool.true_and, Bool.false_and, Bool.and_true, Bool.and_false, Bool.true_or, Bool.false_or, Bool.or_true, Bool.or_false]); (first | (guard_hyp hTw : true = true; clear hTw) | (guard_hyp hTw : false = false; clear hTw) | (revert hTw; intro _))))
              | ((with_reducible refine two_intro ?_ ?_) <;> intro hTw <;> first | (exact Bool.noConfusion hTw) | ((first | (guard_hyp hTw : true = true; clear hTw) | (guard_hyp hTw : false = false; clear hTw) | (revert hTw; intro _))))
              | ((with_reducible refine And.intro ?_ ?_); (focus (first | exact eqHome | omega | rfl | decide | grind)))
              | (with_reducible refine aw_block ?_)
              | (with_reducible refine aw_scope ?_)
              | ((first
                  | ((with_reducible refine aw_regionA T_ok ?_ ?_); (focus kernel_rfl))
                  | ((with_reducible refine aw_drawnA T_ok ?_ ?_ ?_ ?_); (focus kernel_rfl); (focus kernel_rfl); (focus kernel_rfl))
                  | ((with_reducible refine callK_intro (has_spec ps 0 (by omega)) (by with_unfolding_all rfl) ?_ ?_); (focus kernel_rfl))
                  | ((with_reducible refine callI_spec (has_spec ps 0 (by omega)) (by with_unfolding_all rfl) ?_ ?_ ?_); (focus kernel_rfl); (focus kernel_rfl))
                  | (with_reducible refine aw_label ?_)
                  | ((with_reducible refine aw_rfM ?_ ?_); (focus kernel_rfl))
                  | (with_reducible refine aw_skip ?_)
                  | (with_reducible refine aw_exit ?_)
                  | ((with_reducible refine aw_condM ?_ ?_); (focus kernel_rfl))
                  | (with_reducible refine aw_ret ?_)
                ); simp only [↓rwp.eq_def, ↓sop.eq_def, ↓slotK.eq_def, inV, shT, unT, inQ, rfQ, rfEnd, resOf, pickT, setP, ydA, ydQ, rowW, vD, fillV,  ↓gop.eq_def, ↓hop.eq_def, ↓hopH.eq_def, ↓hwp.eq_def, ↓ldV.eq_def, ↓ldK.eq_def, ↓ixK.eq_def, ↓addOff.eq_def, ↓exK.eq_def, ↓notK.eq_def, ↓pickK.eq_def, ↓iop2.eq_def, ↓binK.eq_def, ↓eqop.eq_def, icells, ↓iop.eq_def, ↓cutK.eq_def, ↓lenK.eq_def, ↓lenM.eq_def, tyInt, ↓lookK.eq_def, ↓mpK.eq_def, keyV, allI, fitK, lkM, upM, dlM, kq, ↓cvK.eq_def, ↓mmK.eq_def, ↓biK.eq_def, ↓stK.eq_def, ↓apK.eq_def, ↓apD.eq_def, ↓apS.eq_def, nxt, put, setT, setB, delB, lkT_n, lkT_c, lkB_n, lkB_c, ev, ofC, inT, ofA, ofRet, dV_n, dV_c, getD_enc, toDs_dV, List.head?_cons, List.length_map, Option.toArray_some, Option.toArray_none, Int.toNat_natCast, slOf, TyK.agg, vcells, splice, strip, stripP, gOf, allP, rowV, toDs, toD, toA, toAs, headOps, tailOps, isT, addN, Op.operands, Call.operands, List.map_cons, List.map_nil, List.drop_zero, List.drop_succ_cons, List.take_succ_cons, List.take_zero, List.length_cons, List.length_nil, List.getElem?_cons_zero, List.getElem?_cons_succ, List.getElem?_toArray, Option.bind_some, Option.map_some, Option.map_none, List.append_nil, List.nil_append, List.cons_append, if_true, if_false, reduceIte, Nat.reduceEqDiff, Nat.reduceAdd, Nat.reduceSub, Int.reduceToNat, Nat.reduceLeDiff, Nat.reduceLT, and_false, and_self, Nat.zero_add, Nat.add_zero, reduceCtorEq, Option.getD_some, Option.getD_none, Option.isSome_some, Option.isSome_none, forall_const, true_and, and_true, true_implies, Bool.true_and, Bool.false_and, Bool.and_true, Bool.and_false, Bool.true_or, Bool.false_or, Bool.or_true, Bool.or_false, beq_self_eq_true, zipM, zcells, Value.cells, Value.oneCell', List.toList_toArray, Array.toList_append, Bool.not_not, List.cons.injEq, Int.reduceEq, eq_self, false_and, Bool.not_true, Bool.not_false, ne_eq, not_false_eq_true, imp_self, implies_true, av_bt, av_bf, av_and, av_or, av_nf, av_tt, av_n1, av_n2, av_t1, av_tp, retQ, retL, resV, RetV, RetOk, SubL, entD_len, entD_take, entD_hd, entD_ln, entD_ic, entD_d1, entD_d2, entD_d3, entD_d4, entD_d5, entD_d6, entD_d7, homD_len, homD_take, homD_hd, homD_ln, homD_ic, homD_d1, homD_d2, intD_len, intD_take, intD_hd, intD_ln, intD_ic, ty_39, ty_3, ty_22, ty_30, ty_4, ty_26, hdj, hk3, hnb, hsm]; try simp (disch := omega) only [av_w, av_t1, av_tp, Int.toNat_natCast]))
            refine ⟨k + 1, by omega, by dsimp only; omega, wk_of [(0, some 0)] rfl rfl ?_ ?_⟩
            · simp only [wkT, wkB, wkB1, subV, subVs, subD, subB, lkN_n, lkN_c, lkT_n, lkT_c, lkB_n, lkB_c, if_true, if_false, reduceIte, Nat.reduceEqDiff, true_and, and_true, and_self, inT, ofA]
              (repeat' (first | exact trivial | rfl | exact rfl | refine And.intro ?_ ?_))
            · simp only [wkT, wkB, wkB1, subV, subVs, subD, subB, lkN_n, lkN_c, lkT_n, lkT_c, lkB_n, lkB_c, if_true, if_false, reduceIte, Nat.reduceEqDiff, true_and, and_true, and_self, inT, ofA]
              exact subVs_hom _ H
    · obtain rfl : k = ps.length := by omega
      have hd := ged (Nat.le_refl ps.length)
      repeat' (first
        | (with_reducible refine aw_seq ?_)
        | ((with_reducible refine twoG_intro ?_ ?_) <;> intro hTw <;> first | (exact Bool.noConfusion hTw) | ((try simp only [hTw, Bool.not_true, Bool.not_false, Bool.true_and, Bool.false_and, Bool.and_true, Bool.and_false, Bool.true_or, Bool.false_or, Bool.or_true, Bool.or_false]); (first | (guard_hyp hTw : true = true; clear hTw) | (guard_hyp hTw : false = false; clear hTw) | (revert hTw; intro _))))
        | ((with_reducible refine two_intro ?_ ?_) <;> intro hTw <;> first | (exact Bool.noConfusion hTw) | ((first | (guard_hyp hTw : true = true; clear hTw) | (guard_hyp hTw : false = false; clear hTw) | (revert hTw; intro _))))
        | ((with_reducible refine And.intro ?_ ?_); (focus (first | exact eqHome | omega | rfl | decide | grind)))
        | (with_reducible refine aw_block ?_)
        | (with_reducible refine aw_scope ?_)
        | ((first
            | ((with_reducible refine aw_regionA T_ok ?_ ?_); (focus kernel_rfl))
            | ((with_reducible refine aw_drawnA T_ok ?_ ?_ ?_ ?_); (focus kernel_rfl); (focus kernel_rfl); (focus kernel_rfl))
            | (with_reducible refine aw_label ?_)
            | ((with_reducible refine aw_rfM ?_ ?_); (focus kernel_rfl))
            | (with_reducible refine aw_skip ?_)
            | (with_reducible refine aw_exit ?_)
            | ((with_reducible refine aw_condM ?_ ?_); (focus kernel_rfl))
            | (with_reducible refine aw_ret ?_)
          ); simp only [↓rwp.eq_def, ↓sop.eq_def, ↓slotK.eq_def, inV, shT, unT, inQ, rfQ, rfEnd, resOf, pickT, setP, ydA, ydQ, rowW, vD, fillV,  ↓gop.eq_def, ↓hop.eq_def, ↓hopH.eq_def, ↓hwp.eq_def, ↓ldV.eq_def, ↓ldK.eq_def, ↓ixK.eq_def, ↓addOff.eq_def, ↓exK.eq_def, ↓notK.eq_def, ↓pickK.eq_def, ↓iop2.eq_def, ↓binK.eq_def, ↓eqop.eq_def, icells, ↓iop.eq_def, ↓cutK.eq_def, ↓lenK.eq_def, ↓lenM.eq_def, tyInt, ↓lookK.eq_def, ↓mpK.eq_def, keyV, allI, fitK, lkM, upM, dlM, kq, ↓cvK.eq_def, ↓mmK.eq_def, ↓biK.eq_def, ↓stK.eq_def, ↓apK.eq_def, ↓apD.eq_def, ↓apS.eq_def, nxt, put, setT, setB, delB, lkT_n, lkT_c, lkB_n, lkB_c, ev, ofC, inT, ofA, ofRet, dV_n, dV_c, getD_enc, toDs_dV, List.head?_cons, List.length_map, Option.toArray_some, Option.toArray_none, Int.toNat_natCast, slOf, TyK.agg, vcells, splice, strip, stripP, gOf, allP, rowV, toDs, toD, toA, toAs, headOps, tailOps, isT, addN, Op.operands, Call.operands, List.map_cons, List.map_nil, List.drop_zero, List.drop_succ_cons, List.take_succ_cons, List.take_zero, List.length_cons, List.length_nil, List.getElem?_cons_zero, List.getElem?_cons_succ, List.getElem?_toArray, Option.bind_some, Option.map_some, Option.map_none, List.append_nil, List.nil_append, List.cons_append, if_true, if_false, reduceIte, Nat.reduceEqDiff, Nat.reduceAdd, Nat.reduceSub, Int.reduceToNat, Nat.reduceLeDiff, Nat.reduceLT, and_false, and_self, Nat.zero_add, Nat.add_zero, reduceCtorEq, Option.getD_some, Option.getD_none, Option.isSome_some, Option.isSome_none, forall_const, true_and, and_true, true_implies, Bool.true_and, Bool.false_and, Bool.and_true, Bool.and_false, Bool.true_or, Bool.false_or, Bool.or_true, Bool.or_false, beq_self_eq_true, zipM, zcells, Value.cells, Value.oneCell', List.toList_toArray, Array.toList_append, Bool.not_not, List.cons.injEq, Int.reduceEq, eq_self, false_and, Bool.not_true, Bool.not_false, ne_eq, not_false_eq_true, imp_self, implies_true, av_bt, av_bf, av_and, av_or, av_nf, av_tt, av_n1, av_n2, av_t1, av_tp, retQ, retL, resV, RetV, RetOk, SubL, entD_len, entD_take, entD_hd, entD_ln, entD_ic, entD_d1, entD_d2, entD_d3, entD_d4, entD_d5, entD_d6, entD_d7, homD_len, homD_take, homD_hd, homD_ln, homD_ic, homD_d1, homD_d2, intD_len, intD_take, intD_hd, intD_ln, intD_ic, ty_39, ty_3, ty_22, ty_30, ty_4, ty_26, hd]; try simp (disch := omega) only [av_w, av_t1, av_tp, Int.toNat_natCast]))
      refine aw_loopI (fun j : Nat => ⟨[(1, vI person), (13, .ptr 0 0), (15, vI z), (16, vB cc), (17, vB ((lastK 3 z (xs.take j)).isSome || (lastK 4 z (xs.take j)).isSome)), (18, vB (lastK 1 z (xs.take j)).isSome), (19, vI (nb (lastK 1 z (xs.take j)))), (150, vEs xs), (151, vI xs.length), (152, vI j)], [(0, .cells 26 (dV (homD H)))], 1⟩) (fun j => j ≤ xs.length) (fun j => xs.length - j) 0 (Nat.zero_le _) (wk_of [(0, some 0)] rfl rfl ?_ ?_) ?_
      · simp only [wkT, wkB, wkB1, subV, subVs, subD, subB, lkN_n, lkN_c, lkT_n, lkT_c, lkB_n, lkB_c, if_true, if_false, reduceIte, Nat.reduceEqDiff, true_and, and_true, and_self, inT, ofA]
        refine ⟨by simp, ?_⟩
        (repeat' (first | exact trivial | rfl | exact rfl | refine And.intro ?_ ?_))
      · simp only [wkT, wkB, wkB1, subV, subVs, subD, subB, lkN_n, lkN_c, lkT_n, lkT_c, lkB_n, lkB_c, if_true, if_false, reduceIte, Nat.reduceEqDiff, true_and, and_true, and_self, inT, ofA]
        exact subVs_hom _ H
      intro j hj1
      rcases Nat.lt_or_ge j xs.length with hlj | hgj
      · have hdj := ltd hlj
        have h1 := lastK_take 1 z xs j hlj
        have h3 := lastK_take 3 z xs j hlj
        have h4 := lastK_take 4 z xs j hlj
        obtain ⟨y, hy⟩ : ∃ y, y = xs.getD j default := ⟨_, rfl⟩
        rw [← hy] at h1 h3 h4
        by_cases ha : y.a = z
        · have hb : (y.a != z) = false := by simp [ha]
          by_cases hk3 : y.kind = 3
          · have e3 : (y.kind == 3) = true := by simp [hk3]
            rw [if_pos ⟨hk3, ha⟩] at h3
            rw [if_neg (by omega)] at h1 h4
            repeat' (first
              | (with_reducible refine aw_seq ?_)
              | ((with_reducible refine twoG_intro ?_ ?_) <;> intro hTw <;> first | (exact Bool.noConfusion hTw) | ((try simp only [hTw, Bool.not_true, Bool.not_false, Bool.true_and, Bool.false_and, Bool.and_true, Bool.and_false, Bool.true_or, Bool.false_or, Bool.or_true, Bool.or_false]); (first | (guard_hyp hTw : true = true; clear hTw) | (guard_hyp hTw : false = false; clear hTw) | (revert hTw; intro _))))
              | ((with_reducible refine two_intro ?_ ?_) <;> intro hTw <;> first | (exact Bool.noConfusion hTw) | ((first | (guard_hyp hTw : true = true; clear hTw) | (guard_hyp hTw : false = false; clear hTw) | (revert hTw; intro _))))
              | ((with_reducible refine And.intro ?_ ?_); (focus (first | exact eqHome | omega | rfl | decide | grind)))
              | (with_reducible refine aw_block ?_)
              | (with_reducible refine aw_scope ?_)
              | ((first
                  | ((with_reducible refine aw_regionA T_ok ?_ ?_); (focus kernel_rfl))
                  | ((with_reducible refine aw_drawnA T_ok ?_ ?_ ?_ ?_); (focus kernel_rfl); (focus kernel_rfl); (focus kernel_rfl))
                  | (with_reducible refine aw_label ?_)
                  | ((with_reducible refine aw_rfM ?_ ?_); (focus kernel_rfl))
                  | (with_reducible refine aw_skip ?_)
                  | (with_reducible refine aw_exit ?_)
                  | ((with_reducible refine aw_condM ?_ ?_); (focus kernel_rfl))
                  | (with_reducible refine aw_ret ?_)
                ); simp only [↓rwp.eq_def, ↓sop.eq_def, ↓slotK.eq_def, inV, shT, unT, inQ, rfQ, rfEnd, resOf, pickT, setP, ydA, ydQ, rowW, vD, fillV,  ↓gop.eq_def, ↓hop.eq_def, ↓hopH.eq_def, ↓hwp.eq_def, ↓ldV.eq_def, ↓ldK.eq_def, ↓ixK.eq_def, ↓addOff.eq_def, ↓exK.eq_def, ↓notK.eq_def, ↓pickK.eq_def, ↓iop2.eq_def, ↓binK.eq_def, ↓eqop.eq_def, icells, ↓iop.eq_def, ↓cutK.eq_def, ↓lenK.eq_def, ↓lenM.eq_def, tyInt, ↓lookK.eq_def, ↓mpK.eq_def, keyV, allI, fitK, lkM, upM, dlM, kq, ↓cvK.eq_def, ↓mmK.eq_def, ↓biK.eq_def, ↓stK.eq_def, ↓apK.eq_def, ↓apD.eq_def, ↓apS.eq_def, nxt, put, setT, setB, delB, lkT_n, lkT_c, lkB_n, lkB_c, ev, ofC, inT, ofA, ofRet, dV_n, dV_c, getD_enc, toDs_dV, List.head?_cons, List.length_map, Option.toArray_some, Option.toArray_none, Int.toNat_natCast, slOf, TyK.agg, vcells, splice, strip, stripP, gOf, allP, rowV, toDs, toD, toA, toAs, headOps, tailOps, isT, addN, Op.operands, Call.operands, List.map_cons, List.map_nil, List.drop_zero, List.drop_succ_cons, List.take_succ_cons, List.take_zero, List.length_cons, List.length_nil, List.getElem?_cons_zero, List.getElem?_cons_succ, List.getElem?_toArray, Option.bind_some, Option.map_some, Option.map_none, List.append_nil, List.nil_append, List.cons_append, if_true, if_false, reduceIte, Nat.reduceEqDiff, Nat.reduceAdd, Nat.reduceSub, Int.reduceToNat, Nat.reduceLeDiff, Nat.reduceLT, and_false, and_self, Nat.zero_add, Nat.add_zero, reduceCtorEq, Option.getD_some, Option.getD_none, Option.isSome_some, Option.isSome_none, forall_const, true_and, and_true, true_implies, Bool.true_and, Bool.false_and, Bool.and_true, Bool.and_false, Bool.true_or, Bool.false_or, Bool.or_true, Bool.or_false, beq_self_eq_true, zipM, zcells, Value.cells, Value.oneCell', List.toList_toArray, Array.toList_append, Bool.not_not, List.cons.injEq, Int.reduceEq, eq_self, false_and, Bool.not_true, Bool.not_false, ne_eq, not_false_eq_true, imp_self, implies_true, av_bt, av_bf, av_and, av_or, av_nf, av_tt, av_n1, av_n2, av_t1, av_tp, retQ, retL, resV, RetV, RetOk, SubL, entD_len, entD_take, entD_hd, entD_ln, entD_ic, entD_d1, entD_d2, entD_d3, entD_d4, entD_d5, entD_d6, entD_d7, homD_len, homD_take, homD_hd, homD_ln, homD_ic, homD_d1, homD_d2, intD_len, intD_take, intD_hd, intD_ln, intD_ic, ty_39, ty_3, ty_22, ty_30, ty_4, ty_26, hdj, hy.symm, hb, e3]; try simp (disch := omega) only [av_w, av_t1, av_tp, Int.toNat_natCast]))
            refine ⟨j + 1, by omega, by dsimp only; omega, wk_of [(0, some 0)] rfl rfl ?_ ?_⟩
            · simp only [wkT, wkB, wkB1, subV, subVs, subD, subB, lkN_n, lkN_c, lkT_n, lkT_c, lkB_n, lkB_c, if_true, if_false, reduceIte, Nat.reduceEqDiff, true_and, and_true, and_self, inT, ofA]
              rw [h1, h3, h4]
              (repeat' (first | exact trivial | rfl | exact rfl | refine And.intro ?_ ?_))
            · simp only [wkT, wkB, wkB1, subV, subVs, subD, subB, lkN_n, lkN_c, lkT_n, lkT_c, lkB_n, lkB_c, if_true, if_false, reduceIte, Nat.reduceEqDiff, true_and, and_true, and_self, inT, ofA]
              exact subVs_hom _ H
          · have e3 : (y.kind == 3) = false := by simp [hk3]
            rw [if_neg (fun h => hk3 h.1)] at h3
            by_cases hk4 : y.kind = 4
            · have e4 : (y.kind == 4) = true := by simp [hk4]
              rw [if_pos ⟨hk4, ha⟩] at h4
              rw [if_neg (by omega)] at h1
              repeat' (first
                | (with_reducible refine aw_seq ?_)
                | ((with_reducible refine twoG_intro ?_ ?_) <;> intro hTw <;> first | (exact Bool.noConfusion hTw) | ((try simp only [hTw, Bool.not_true, Bool.not_false, Bool.true_and, Bool.false_and, Bool.and_true, Bool.and_false, Bool.true_or, Bool.false_or, Bool.or_true, Bool.or_false]); (first | (guard_hyp hTw : true = true; clear hTw) | (guard_hyp hTw : false = false; clear hTw) | (revert hTw; intro _))))
                | ((with_reducible refine two_intro ?_ ?_) <;> intro hTw <;> first | (exact Bool.noConfusion hTw) | ((first | (guard_hyp hTw : true = true; clear hTw) | (guard_hyp hTw : false = false; clear hTw) | (revert hTw; intro _))))
                | ((with_reducible refine And.intro ?_ ?_); (focus (first | exact eqHome | omega | rfl | decide | grind)))
                | (with_reducible refine aw_block ?_)
                | (with_reducible refine aw_scope ?_)
                | ((first
                    | ((with_reducible refine aw_regionA T_ok ?_ ?_); (focus kernel_rfl))
                    | ((with_reducible refine aw_drawnA T_ok ?_ ?_ ?_ ?_); (focus kernel_rfl); (focus kernel_rfl); (focus kernel_rfl))
                    | (with_reducible refine aw_label ?_)
                    | ((with_reducible refine aw_rfM ?_ ?_); (focus kernel_rfl))
                    | (with_reducible refine aw_skip ?_)
                    | (with_reducible refine aw_exit ?_)
                    | ((with_reducible refine aw_condM ?_ ?_); (focus kernel_rfl))
                    | (with_reducible refine aw_ret ?_)
                  ); simp only [↓rwp.eq_def, ↓sop.eq_def, ↓slotK.eq_def, inV, shT, unT, inQ, rfQ, rfEnd, resOf, pickT, setP, ydA, ydQ, rowW, vD, fillV,  ↓gop.eq_def, ↓hop.eq_def, ↓hopH.eq_def, ↓hwp.eq_def, ↓ldV.eq_def, ↓ldK.eq_def, ↓ixK.eq_def, ↓addOff.eq_def, ↓exK.eq_def, ↓notK.eq_def, ↓pickK.eq_def, ↓iop2.eq_def, ↓binK.eq_def, ↓eqop.eq_def, icells, ↓iop.eq_def, ↓cutK.eq_def, ↓lenK.eq_def, ↓lenM.eq_def, tyInt, ↓lookK.eq_def, ↓mpK.eq_def, keyV, allI, fitK, lkM, upM, dlM, kq, ↓cvK.eq_def, ↓mmK.eq_def, ↓biK.eq_def, ↓stK.eq_def, ↓apK.eq_def, ↓apD.eq_def, ↓apS.eq_def, nxt, put, setT, setB, delB, lkT_n, lkT_c, lkB_n, lkB_c, ev, ofC, inT, ofA, ofRet, dV_n, dV_c, getD_enc, toDs_dV, List.head?_cons, List.length_map, Option.toArray_some, Option.toArray_none, Int.toNat_natCast, slOf, TyK.agg, vcells, splice, strip, stripP, gOf, allP, rowV, toDs, toD, toA, toAs, headOps, tailOps, isT, addN, Op.operands, Call.operands, List.map_cons, List.map_nil, List.drop_zero, List.drop_succ_cons, List.take_succ_cons, List.take_zero, List.length_cons, List.length_nil, List.getElem?_cons_zero, List.getElem?_cons_succ, List.getElem?_toArray, Option.bind_some, Option.map_some, Option.map_none, List.append_nil, List.nil_append, List.cons_append, if_true, if_false, reduceIte, Nat.reduceEqDiff, Nat.reduceAdd, Nat.reduceSub, Int.reduceToNat, Nat.reduceLeDiff, Nat.reduceLT, and_false, and_self, Nat.zero_add, Nat.add_zero, reduceCtorEq, Option.getD_some, Option.getD_none, Option.isSome_some, Option.isSome_none, forall_const, true_and, and_true, true_implies, Bool.true_and, Bool.false_and, Bool.and_true, Bool.and_false, Bool.true_or, Bool.false_or, Bool.or_true, Bool.or_false, beq_self_eq_true, zipM, zcells, Value.cells, Value.oneCell', List.toList_toArray, Array.toList_append, Bool.not_not, List.cons.injEq, Int.reduceEq, eq_self, false_and, Bool.not_true, Bool.not_false, ne_eq, not_false_eq_true, imp_self, implies_true, av_bt, av_bf, av_and, av_or, av_nf, av_tt, av_n1, av_n2, av_t1, av_tp, retQ, retL, resV, RetV, RetOk, SubL, entD_len, entD_take, entD_hd, entD_ln, entD_ic, entD_d1, entD_d2, entD_d3, entD_d4, entD_d5, entD_d6, entD_d7, homD_len, homD_take, homD_hd, homD_ln, homD_ic, homD_d1, homD_d2, intD_len, intD_take, intD_hd, intD_ln, intD_ic, ty_39, ty_3, ty_22, ty_30, ty_4, ty_26, hdj, hy.symm, hb, e3, e4]; try simp (disch := omega) only [av_w, av_t1, av_tp, Int.toNat_natCast]))
              refine ⟨j + 1, by omega, by dsimp only; omega, wk_of [(0, some 0)] rfl rfl ?_ ?_⟩
              · simp only [wkT, wkB, wkB1, subV, subVs, subD, subB, lkN_n, lkN_c, lkT_n, lkT_c, lkB_n, lkB_c, if_true, if_false, reduceIte, Nat.reduceEqDiff, true_and, and_true, and_self, inT, ofA]
                rw [h1, h3, h4, Option.isSome_some, Bool.or_true]
                (repeat' (first | exact trivial | rfl | exact rfl | refine And.intro ?_ ?_))
              · simp only [wkT, wkB, wkB1, subV, subVs, subD, subB, lkN_n, lkN_c, lkT_n, lkT_c, lkB_n, lkB_c, if_true, if_false, reduceIte, Nat.reduceEqDiff, true_and, and_true, and_self, inT, ofA]
                exact subVs_hom _ H
            · have e4 : (y.kind == 4) = false := by simp [hk4]
              rw [if_neg (fun h => hk4 h.1)] at h4
              by_cases hk1 : y.kind = 1
              · have e1 : (y.kind == 1) = true := by simp [hk1]
                rw [if_pos ⟨hk1, ha⟩] at h1
                repeat' (first
                  | (with_reducible refine aw_seq ?_)
                  | ((with_reducible refine twoG_intro ?_ ?_) <;> intro hTw <;> first | (exact Bool.noConfusion hTw) | ((try simp only [hTw, Bool.not_true, Bool.not_false, Bool.true_and, Bool.false_and, Bool.and_true, Bool.and_false, Bool.true_or, Bool.false_or, Bool.or_true, Bool.or_false]); (first | (guard_hyp hTw : true = true; clear hTw) | (guard_hyp hTw : false = false; clear hTw) | (revert hTw; intro _))))
                  | ((with_reducible refine two_intro ?_ ?_) <;> intro hTw <;> first | (exact Bool.noConfusion hTw) | ((first | (guard_hyp hTw : true = true; clear hTw) | (guard_hyp hTw : false = false; clear hTw) | (revert hTw; intro _))))
                  | ((with_reducible refine And.intro ?_ ?_); (focus (first | exact eqHome | omega | rfl | decide | grind)))
                  | (with_reducible refine aw_block ?_)
                  | (with_reducible refine aw_scope ?_)
                  | ((first
                      | ((with_reducible refine aw_regionA T_ok ?_ ?_); (focus kernel_rfl))
                      | ((with_reducible refine aw_drawnA T_ok ?_ ?_ ?_ ?_); (focus kernel_rfl); (focus kernel_rfl); (focus kernel_rfl))
                      | (with_reducible refine aw_label ?_)
                      | ((with_reducible refine aw_rfM ?_ ?_); (focus kernel_rfl))
                      | (with_reducible refine aw_skip ?_)
                      | (with_reducible refine aw_exit ?_)
                      | ((with_reducible refine aw_condM ?_ ?_); (focus kernel_rfl))
                      | (with_reducible refine aw_ret ?_)
                    ); simp only [↓rwp.eq_def, ↓sop.eq_def, ↓slotK.eq_def, inV, shT, unT, inQ, rfQ, rfEnd, resOf, pickT, setP, ydA, ydQ, rowW, vD, fillV,  ↓gop.eq_def, ↓hop.eq_def, ↓hopH.eq_def, ↓hwp.eq_def, ↓ldV.eq_def, ↓ldK.eq_def, ↓ixK.eq_def, ↓addOff.eq_def, ↓exK.eq_def, ↓notK.eq_def, ↓pickK.eq_def, ↓iop2.eq_def, ↓binK.eq_def, ↓eqop.eq_def, icells, ↓iop.eq_def, ↓cutK.eq_def, ↓lenK.eq_def, ↓lenM.eq_def, tyInt, ↓lookK.eq_def, ↓mpK.eq_def, keyV, allI, fitK, lkM, upM, dlM, kq, ↓cvK.eq_def, ↓mmK.eq_def, ↓biK.eq_def, ↓stK.eq_def, ↓apK.eq_def, ↓apD.eq_def, ↓apS.eq_def, nxt, put, setT, setB, delB, lkT_n, lkT_c, lkB_n, lkB_c, ev, ofC, inT, ofA, ofRet, dV_n, dV_c, getD_enc, toDs_dV, List.head?_cons, List.length_map, Option.toArray_some, Option.toArray_none, Int.toNat_natCast, slOf, TyK.agg, vcells, splice, strip, stripP, gOf, allP, rowV, toDs, toD, toA, toAs, headOps, tailOps, isT, addN, Op.operands, Call.operands, List.map_cons, List.map_nil, List.drop_zero, List.drop_succ_cons, List.take_succ_cons, List.take_zero, List.length_cons, List.length_nil, List.getElem?_cons_zero, List.getElem?_cons_succ, List.getElem?_toArray, Option.bind_some, Option.map_some, Option.map_none, List.append_nil, List.nil_append, List.cons_append, if_true, if_false, reduceIte, Nat.reduceEqDiff, Nat.reduceAdd, Nat.reduceSub, Int.reduceToNat, Nat.reduceLeDiff, Nat.reduceLT, and_false, and_self, Nat.zero_add, Nat.add_zero, reduceCtorEq, Option.getD_some, Option.getD_none, Option.isSome_some, Option.isSome_none, forall_const, true_and, and_true, true_implies, Bool.true_and, Bool.false_and, Bool.and_true, Bool.and_false, Bool.true_or, Bool.false_or, Bool.or_true, Bool.or_false, beq_self_eq_true, zipM, zcells, Value.cells, Value.oneCell', List.toList_toArray, Array.toList_append, Bool.not_not, List.cons.injEq, Int.reduceEq, eq_self, false_and, Bool.not_true, Bool.not_false, ne_eq, not_false_eq_true, imp_self, implies_true, av_bt, av_bf, av_and, av_or, av_nf, av_tt, av_n1, av_n2, av_t1, av_tp, retQ, retL, resV, RetV, RetOk, SubL, entD_len, entD_take, entD_hd, entD_ln, entD_ic, entD_d1, entD_d2, entD_d3, entD_d4, entD_d5, entD_d6, entD_d7, homD_len, homD_take, homD_hd, homD_ln, homD_ic, homD_d1, homD_d2, intD_len, intD_take, intD_hd, intD_ln, intD_ic, ty_39, ty_3, ty_22, ty_30, ty_4, ty_26, hdj, hy.symm, hb, e3, e4, e1]; try simp (disch := omega) only [av_w, av_t1, av_tp, Int.toNat_natCast]))
                refine ⟨j + 1, by omega, by dsimp only; omega, wk_of [(0, some 0)] rfl rfl ?_ ?_⟩
                · simp only [wkT, wkB, wkB1, subV, subVs, subD, subB, lkN_n, lkN_c, lkT_n, lkT_c, lkB_n, lkB_c, if_true, if_false, reduceIte, Nat.reduceEqDiff, true_and, and_true, and_self, inT, ofA]
                  rw [h1, h3, h4]
                  (repeat' (first | exact trivial | rfl | exact rfl | refine And.intro ?_ ?_))
                · simp only [wkT, wkB, wkB1, subV, subVs, subD, subB, lkN_n, lkN_c, lkT_n, lkT_c, lkB_n, lkB_c, if_true, if_false, reduceIte, Nat.reduceEqDiff, true_and, and_true, and_self, inT, ofA]
                  exact subVs_hom _ H
              · have e1 : (y.kind == 1) = false := by simp [hk1]
                rw [if_neg (fun h => hk1 h.1)] at h1
                repeat' (first
                  | (with_reducible refine aw_seq ?_)
                  | ((with_reducible refine twoG_intro ?_ ?_) <;> intro hTw <;> first | (exact Bool.noConfusion hTw) | ((try simp only [hTw, Bool.not_true, Bool.not_false, Bool.true_and, Bool.false_and, Bool.and_true, Bool.and_false, Bool.true_or, Bool.false_or, Bool.or_true, Bool.or_false]); (first | (guard_hyp hTw : true = true; clear hTw) | (guard_hyp hTw : false = false; clear hTw) | (revert hTw; intro _))))
                  | ((with_reducible refine two_intro ?_ ?_) <;> intro hTw <;> first | (exact Bool.noConfusion hTw) | ((first | (guard_hyp hTw : true = true; clear hTw) | (guard_hyp hTw : false = false; clear hTw) | (revert hTw; intro _))))
                  | ((with_reducible refine And.intro ?_ ?_); (focus (first | exact eqHome | omega | rfl | decide | grind)))
                  | (with_reducible refine aw_block ?_)
                  | (with_reducible refine aw_scope ?_)
                  | ((first
                      | ((with_reducible refine aw_regionA T_ok ?_ ?_); (focus kernel_rfl))
                      | ((with_reducible refine aw_drawnA T_ok ?_ ?_ ?_ ?_); (focus kernel_rfl); (focus kernel_rfl); (focus kernel_rfl))
                      | (with_reducible refine aw_label ?_)
                      | ((with_reducible refine aw_rfM ?_ ?_); (focus kernel_rfl))
                      | (with_reducible refine aw_skip ?_)
                      | (with_reducible refine aw_exit ?_)
                      | ((with_reducible refine aw_condM ?_ ?_); (focus kernel_rfl))
                      | (with_reducible refine aw_ret ?_)
                    ); simp only [↓rwp.eq_def, ↓sop.eq_def, ↓slotK.eq_def, inV, shT, unT, inQ, rfQ, rfEnd, resOf, pickT, setP, ydA, ydQ, rowW, vD, fillV,  ↓gop.eq_def, ↓hop.eq_def, ↓hopH.eq_def, ↓hwp.eq_def, ↓ldV.eq_def, ↓ldK.eq_def, ↓ixK.eq_def, ↓addOff.eq_def, ↓exK.eq_def, ↓notK.eq_def, ↓pickK.eq_def, ↓iop2.eq_def, ↓binK.eq_def, ↓eqop.eq_def, icells, ↓iop.eq_def, ↓cutK.eq_def, ↓lenK.eq_def, ↓lenM.eq_def, tyInt, ↓lookK.eq_def, ↓mpK.eq_def, keyV, allI, fitK, lkM, upM, dlM, kq, ↓cvK.eq_def, ↓mmK.eq_def, ↓biK.eq_def, ↓stK.eq_def, ↓apK.eq_def, ↓apD.eq_def, ↓apS.eq_def, nxt, put, setT, setB, delB, lkT_n, lkT_c, lkB_n, lkB_c, ev, ofC, inT, ofA, ofRet, dV_n, dV_c, getD_enc, toDs_dV, List.head?_cons, List.length_map, Option.toArray_some, Option.toArray_none, Int.toNat_natCast, slOf, TyK.agg, vcells, splice, strip, stripP, gOf, allP, rowV, toDs, toD, toA, toAs, headOps, tailOps, isT, addN, Op.operands, Call.operands, List.map_cons, List.map_nil, List.drop_zero, List.drop_succ_cons, List.take_succ_cons, List.take_zero, List.length_cons, List.length_nil, List.getElem?_cons_zero, List.getElem?_cons_succ, List.getElem?_toArray, Option.bind_some, Option.map_some, Option.map_none, List.append_nil, List.nil_append, List.cons_append, if_true, if_false, reduceIte, Nat.reduceEqDiff, Nat.reduceAdd, Nat.reduceSub, Int.reduceToNat, Nat.reduceLeDiff, Nat.reduceLT, and_false, and_self, Nat.zero_add, Nat.add_zero, reduceCtorEq, Option.getD_some, Option.getD_none, Option.isSome_some, Option.isSome_none, forall_const, true_and, and_true, true_implies, Bool.true_and, Bool.false_and, Bool.and_true, Bool.and_false, Bool.true_or, Bool.false_or, Bool.or_true, Bool.or_false, beq_self_eq_true, zipM, zcells, Value.cells, Value.oneCell', List.toList_toArray, Array.toList_append, Bool.not_not, List.cons.injEq, Int.reduceEq, eq_self, false_and, Bool.not_true, Bool.not_false, ne_eq, not_false_eq_true, imp_self, implies_true, av_bt, av_bf, av_and, av_or, av_nf, av_tt, av_n1, av_n2, av_t1, av_tp, retQ, retL, resV, RetV, RetOk, SubL, entD_len, entD_take, entD_hd, entD_ln, entD_ic, entD_d1, entD_d2, entD_d3, entD_d4, entD_d5, entD_d6, entD_d7, homD_len, homD_take, homD_hd, homD_ln, homD_ic, homD_d1, homD_d2, intD_len, intD_take, intD_hd, intD_ln, intD_ic, ty_39, ty_3, ty_22, ty_30, ty_4, ty_26, hdj, hy.symm, hb, e3, e4, e1]; try simp (disch := omega) only [av_w, av_t1, av_tp, Int.toNat_natCast]))
                refine ⟨j + 1, by omega, by dsimp only; omega, wk_of [(0, some 0)] rfl rfl ?_ ?_⟩
                · simp only [wkT, wkB, wkB1, subV, subVs, subD, subB, lkN_n, lkN_c, lkT_n, lkT_c, lkB_n, lkB_c, if_true, if_false, reduceIte, Nat.reduceEqDiff, true_and, and_true, and_self, inT, ofA]
                  rw [h1, h3, h4]
                  (repeat' (first | exact trivial | rfl | exact rfl | refine And.intro ?_ ?_))
                · simp only [wkT, wkB, wkB1, subV, subVs, subD, subB, lkN_n, lkN_c, lkT_n, lkT_c, lkB_n, lkB_c, if_true, if_false, reduceIte, Nat.reduceEqDiff, true_and, and_true, and_self, inT, ofA]
                  exact subVs_hom _ H
        · have hb : (y.a != z) = true := by simp [ha]
          rw [if_neg (fun h => ha h.2)] at h1 h3 h4
          repeat' (first
            | (with_reducible refine aw_seq ?_)
            | ((with_reducible refine twoG_intro ?_ ?_) <;> intro hTw <;> first | (exact Bool.noConfusion hTw) | ((try simp only [hTw, Bool.not_true, Bool.not_false, Bool.true_and, Bool.false_and, Bool.and_true, Bool.and_false, Bool.true_or, Bool.false_or, Bool.or_true, Bool.or_false]); (first | (guard_hyp hTw : true = true; clear hTw) | (guard_hyp hTw : false = false; clear hTw) | (revert hTw; intro _))))
            | ((with_reducible refine two_intro ?_ ?_) <;> intro hTw <;> first | (exact Bool.noConfusion hTw) | ((first | (guard_hyp hTw : true = true; clear hTw) | (guard_hyp hTw : false = false; clear hTw) | (revert hTw; intro _))))
            | ((with_reducible refine And.intro ?_ ?_); (focus (first | exact eqHome | omega | rfl | decide | grind)))
            | (with_reducible refine aw_block ?_)
            | (with_reducible refine aw_scope ?_)
            | ((first
                | ((with_reducible refine aw_regionA T_ok ?_ ?_); (focus kernel_rfl))
                | ((with_reducible refine aw_drawnA T_ok ?_ ?_ ?_ ?_); (focus kernel_rfl); (focus kernel_rfl); (focus kernel_rfl))
                | (with_reducible refine aw_label ?_)
                | ((with_reducible refine aw_rfM ?_ ?_); (focus kernel_rfl))
                | (with_reducible refine aw_skip ?_)
                | (with_reducible refine aw_exit ?_)
                | ((with_reducible refine aw_condM ?_ ?_); (focus kernel_rfl))
                | (with_reducible refine aw_ret ?_)
              ); simp only [↓rwp.eq_def, ↓sop.eq_def, ↓slotK.eq_def, inV, shT, unT, inQ, rfQ, rfEnd, resOf, pickT, setP, ydA, ydQ, rowW, vD, fillV,  ↓gop.eq_def, ↓hop.eq_def, ↓hopH.eq_def, ↓hwp.eq_def, ↓ldV.eq_def, ↓ldK.eq_def, ↓ixK.eq_def, ↓addOff.eq_def, ↓exK.eq_def, ↓notK.eq_def, ↓pickK.eq_def, ↓iop2.eq_def, ↓binK.eq_def, ↓eqop.eq_def, icells, ↓iop.eq_def, ↓cutK.eq_def, ↓lenK.eq_def, ↓lenM.eq_def, tyInt, ↓lookK.eq_def, ↓mpK.eq_def, keyV, allI, fitK, lkM, upM, dlM, kq, ↓cvK.eq_def, ↓mmK.eq_def, ↓biK.eq_def, ↓stK.eq_def, ↓apK.eq_def, ↓apD.eq_def, ↓apS.eq_def, nxt, put, setT, setB, delB, lkT_n, lkT_c, lkB_n, lkB_c, ev, ofC, inT, ofA, ofRet, dV_n, dV_c, getD_enc, toDs_dV, List.head?_cons, List.length_map, Option.toArray_some, Option.toArray_none, Int.toNat_natCast, slOf, TyK.agg, vcells, splice, strip, stripP, gOf, allP, rowV, toDs, toD, toA, toAs, headOps, tailOps, isT, addN, Op.operands, Call.operands, List.map_cons, List.map_nil, List.drop_zero, List.drop_succ_cons, List.take_succ_cons, List.take_zero, List.length_cons, List.length_nil, List.getElem?_cons_zero, List.getElem?_cons_succ, List.getElem?_toArray, Option.bind_some, Option.map_some, Option.map_none, List.append_nil, List.nil_append, List.cons_append, if_true, if_false, reduceIte, Nat.reduceEqDiff, Nat.reduceAdd, Nat.reduceSub, Int.reduceToNat, Nat.reduceLeDiff, Nat.reduceLT, and_false, and_self, Nat.zero_add, Nat.add_zero, reduceCtorEq, Option.getD_some, Option.getD_none, Option.isSome_some, Option.isSome_none, forall_const, true_and, and_true, true_implies, Bool.true_and, Bool.false_and, Bool.and_true, Bool.and_false, Bool.true_or, Bool.false_or, Bool.or_true, Bool.or_false, beq_self_eq_true, zipM, zcells, Value.cells, Value.oneCell', List.toList_toArray, Array.toList_append, Bool.not_not, List.cons.injEq, Int.reduceEq, eq_self, false_and, Bool.not_true, Bool.not_false, ne_eq, not_false_eq_true, imp_self, implies_true, av_bt, av_bf, av_and, av_or, av_nf, av_tt, av_n1, av_n2, av_t1, av_tp, retQ, retL, resV, RetV, RetOk, SubL, entD_len, entD_take, entD_hd, entD_ln, entD_ic, entD_d1, entD_d2, entD_d3, entD_d4, entD_d5, entD_d6, entD_d7, homD_len, homD_take, homD_hd, homD_ln, homD_ic, homD_d1, homD_d2, intD_len, intD_take, intD_hd, intD_ln, intD_ic, ty_39, ty_3, ty_22, ty_30, ty_4, ty_26, hdj, hy.symm, hb]; try simp (disch := omega) only [av_w, av_t1, av_tp, Int.toNat_natCast]))
          refine ⟨j + 1, by omega, by dsimp only; omega, wk_of [(0, some 0)] rfl rfl ?_ ?_⟩
          · simp only [wkT, wkB, wkB1, subV, subVs, subD, subB, lkN_n, lkN_c, lkT_n, lkT_c, lkB_n, lkB_c, if_true, if_false, reduceIte, Nat.reduceEqDiff, true_and, and_true, and_self, inT, ofA]
            rw [h1, h3, h4]
            (repeat' (first | exact trivial | rfl | exact rfl | refine And.intro ?_ ?_))
          · simp only [wkT, wkB, wkB1, subV, subVs, subD, subB, lkN_n, lkN_c, lkT_n, lkT_c, lkB_n, lkB_c, if_true, if_false, reduceIte, Nat.reduceEqDiff, true_and, and_true, and_self, inT, ofA]
            exact subVs_hom _ H
      · obtain rfl : j = xs.length := by omega
        have hdj := ged (Nat.le_refl xs.length)
        rw [List.take_length]
        repeat' (first
          | (with_reducible refine aw_seq ?_)
          | ((with_reducible refine twoG_intro ?_ ?_) <;> intro hTw <;> first | (exact Bool.noConfusion hTw) | ((try simp only [hTw, Bool.not_true, Bool.not_false, Bool.true_and, Bool.false_and, Bool.and_true, Bool.and_false, Bool.true_or, Bool.false_or, Bool.or_true, Bool.or_false]); (first | (guard_hyp hTw : true = true; clear hTw) | (guard_hyp hTw : false = false; clear hTw) | (revert hTw; intro _))))
          | ((with_reducible refine two_intro ?_ ?_) <;> intro hTw <;> first | (exact Bool.noConfusion hTw) | ((first | (guard_hyp hTw : true = true; clear hTw) | (guard_hyp hTw : false = false; clear hTw) | (revert hTw; intro _))))
          | ((with_reducible refine And.intro ?_ ?_); (focus (first | exact eqHome | omega | rfl | decide | grind)))
          | (with_reducible refine aw_block ?_)
          | (with_reducible refine aw_scope ?_)
          | ((first
              | ((with_reducible refine aw_regionA T_ok ?_ ?_); (focus kernel_rfl))
              | ((with_reducible refine aw_drawnA T_ok ?_ ?_ ?_ ?_); (focus kernel_rfl); (focus kernel_rfl); (focus kernel_rfl))
              | (with_reducible refine aw_label ?_)
              | ((with_reducible refine aw_rfM ?_ ?_); (focus kernel_rfl))
              | (with_reducible refine aw_skip ?_)
              | (with_reducible refine aw_exit ?_)
              | ((with_reducible refine aw_condM ?_ ?_); (focus kernel_rfl))
              | (with_reducible refine aw_ret ?_)
            ); simp only [↓rwp.eq_def, ↓sop.eq_def, ↓slotK.eq_def, inV, shT, unT, inQ, rfQ, rfEnd, resOf, pickT, setP, ydA, ydQ, rowW, vD, fillV,  ↓gop.eq_def, ↓hop.eq_def, ↓hopH.eq_def, ↓hwp.eq_def, ↓ldV.eq_def, ↓ldK.eq_def, ↓ixK.eq_def, ↓addOff.eq_def, ↓exK.eq_def, ↓notK.eq_def, ↓pickK.eq_def, ↓iop2.eq_def, ↓binK.eq_def, ↓eqop.eq_def, icells, ↓iop.eq_def, ↓cutK.eq_def, ↓lenK.eq_def, ↓lenM.eq_def, tyInt, ↓lookK.eq_def, ↓mpK.eq_def, keyV, allI, fitK, lkM, upM, dlM, kq, ↓cvK.eq_def, ↓mmK.eq_def, ↓biK.eq_def, ↓stK.eq_def, ↓apK.eq_def, ↓apD.eq_def, ↓apS.eq_def, nxt, put, setT, setB, delB, lkT_n, lkT_c, lkB_n, lkB_c, ev, ofC, inT, ofA, ofRet, dV_n, dV_c, getD_enc, toDs_dV, List.head?_cons, List.length_map, Option.toArray_some, Option.toArray_none, Int.toNat_natCast, slOf, TyK.agg, vcells, splice, strip, stripP, gOf, allP, rowV, toDs, toD, toA, toAs, headOps, tailOps, isT, addN, Op.operands, Call.operands, List.map_cons, List.map_nil, List.drop_zero, List.drop_succ_cons, List.take_succ_cons, List.take_zero, List.length_cons, List.length_nil, List.getElem?_cons_zero, List.getElem?_cons_succ, List.getElem?_toArray, Option.bind_some, Option.map_some, Option.map_none, List.append_nil, List.nil_append, List.cons_append, if_true, if_false, reduceIte, Nat.reduceEqDiff, Nat.reduceAdd, Nat.reduceSub, Int.reduceToNat, Nat.reduceLeDiff, Nat.reduceLT, and_false, and_self, Nat.zero_add, Nat.add_zero, reduceCtorEq, Option.getD_some, Option.getD_none, Option.isSome_some, Option.isSome_none, forall_const, true_and, and_true, true_implies, Bool.true_and, Bool.false_and, Bool.and_true, Bool.and_false, Bool.true_or, Bool.false_or, Bool.or_true, Bool.or_false, beq_self_eq_true, zipM, zcells, Value.cells, Value.oneCell', List.toList_toArray, Array.toList_append, Bool.not_not, List.cons.injEq, Int.reduceEq, eq_self, false_and, Bool.not_true, Bool.not_false, ne_eq, not_false_eq_true, imp_self, implies_true, av_bt, av_bf, av_and, av_or, av_nf, av_tt, av_n1, av_n2, av_t1, av_tp, retQ, retL, resV, RetV, RetOk, SubL, entD_len, entD_take, entD_hd, entD_ln, entD_ic, entD_d1, entD_d2, entD_d3, entD_d4, entD_d5, entD_d6, entD_d7, homD_len, homD_take, homD_hd, homD_ln, homD_ic, homD_d1, homD_d2, intD_len, intD_take, intD_hd, intD_ln, intD_ic, ty_39, ty_3, ty_22, ty_30, ty_4, ty_26, hdj]; try simp (disch := omega) only [av_w, av_t1, av_tp, Int.toNat_natCast]))
        · rename_i c1
          refine Sub.of_eq (congrArg aB ?_)
          rw [home_eq H ⟨2, person, 0⟩, hH, homeP, if_pos c1]
          simp
        · rename_i c1 c2
          refine Sub.of_eq (congrArg aB ?_)
          rw [home_eq H ⟨3, z, 0⟩, hH, homeP, if_neg (by rw [c1]; simp), if_pos c2]
          simp
        · rename_i c1 c2 c3
          refine Sub.of_eq (congrArg aB ?_)
          obtain ⟨e, he⟩ := Option.isSome_iff_exists.1 c3
          rw [home_eq H ⟨1, z, nb (lastK 1 z xs)⟩, hH, homeP, if_neg (by rw [c1]; simp), if_neg (by rw [c2]; simp), he]
          simp [nb]
        · rename_i c1 c2 c3
          refine Sub.of_eq (congrArg aB ?_)
          have he : lastK 1 z xs = none := by simpa using c3
          rw [home_eq H ⟨2, z, 0⟩, hH, homeP, if_neg (by rw [c1]; simp), if_neg (by rw [c2]; simp), he]
          simp
end Go.Proofs.Ytfmefdeldgmhpaa

namespace Go.Proofs.Ytfmefdeldgmhpaa
set_option linter.unusedSimpArgs false
set_option linter.unusedVariables false
open Go.RowKit
set_option maxRecDepth 100000
set_option maxHeartbeats 4000000
theorem law6_spec (l : List Ent) (person day time : Int) (ho : l.length ≤ 140737488351232 ∧ ∀ x ∈ l, OkE x) : Spec Try.prog 6 [aEs l, aI person, aI day, aI time] (.r1 (aB true)) := by
  obtain ⟨hl, hk'⟩ := ho
  have hk := okE_kind hk'
  refine spec_of T_ok Try.func6 (by dsimp only [Try.f6]) rfl rfl (by simp) fun w F => ?_
  cases hv : validL l person day time with
  | false =>
    repeat' (first
      | (with_reducible refine aw_seq ?_)
      | ((with_reducible refine twoG_intro ?_ ?_) <;> intro hTw <;> first | (exact Bool.noConfusion hTw) | ((try simp only [hTw, Bool.not_true, Bool.not_false, Bool.true_and, Bool.false_and, Bool.and_true, Bool.and_false, Bool.true_or, Bool.false_or, Bool.or_true, Bool.or_false]); (first | (guard_hyp hTw : true = true; clear hTw) | (guard_hyp hTw : false = false; clear hTw) | (revert hTw; intro _))))
      | ((with_reducible refine two_intro ?_ ?_) <;> intro hTw <;> first | (exact Bool.noConfusion hTw) | ((first | (guard_hyp hTw : true = true; clear hTw) | (guard_hyp hTw : false = false; clear hTw) | (revert hTw; intro _))))
      | ((with_reducible refine And.intro ?_ ?_); (focus (first | omega | rfl | decide | grind)))
      | (with_reducible refine aw_block ?_)
      | (with_reducible refine aw_scope ?_)
      | ((first
          | ((with_reducible refine aw_regionA T_ok ?_ ?_); (focus kernel_rfl))
          | ((with_reducible refine aw_drawnA T_ok ?_ ?_ ?_ ?_); (focus kernel_rfl); (focus kernel_rfl); (focus kernel_rfl))
          | ((with_reducible refine callK_intro (hsane_spec) (by with_unfolding_all rfl) ?_ ?_); (focus kernel_rfl))
          | ((with_reducible refine callI_spec (hsane_spec) (by with_unfolding_all rfl) ?_ ?_ ?_); (focus kernel_rfl); (focus kernel_rfl))
          | ((with_reducible refine callK_intro (hvalid_spec l person day time hl) (by with_unfolding_all rfl) ?_ ?_); (focus kernel_rfl))
          | ((with_reducible refine callI_spec (hvalid_spec l person day time hl) (by with_unfolding_all rfl) ?_ ?_ ?_); (focus kernel_rfl); (focus kernel_rfl))
          | (with_reducible refine aw_label ?_)
          | ((with_reducible refine aw_rfM ?_ ?_); (focus kernel_rfl))
          | (with_reducible refine aw_skip ?_)
          | (with_reducible refine aw_exit ?_)
          | ((with_reducible refine aw_condM ?_ ?_); (focus kernel_rfl))
          | (with_reducible refine aw_ret ?_)
        ); simp only [↓rwp.eq_def, ↓sop.eq_def, ↓slotK.eq_def, inV, shT, unT, inQ, rfQ, rfEnd, resOf, pickT, setP, ydA, ydQ, rowW, vD, fillV,  ↓gop.eq_def, ↓hop.eq_def, ↓hopH.eq_def, ↓hwp.eq_def, ↓ldV.eq_def, ↓ldK.eq_def, ↓ixK.eq_def, ↓addOff.eq_def, ↓exK.eq_def, ↓notK.eq_def, ↓pickK.eq_def, ↓iop2.eq_def, ↓binK.eq_def, ↓eqop.eq_def, icells, ↓iop.eq_def, ↓cutK.eq_def, ↓lenK.eq_def, ↓lenM.eq_def, tyInt, ↓lookK.eq_def, ↓mpK.eq_def, keyV, allI, fitK, lkM, upM, dlM, kq, ↓cvK.eq_def, ↓mmK.eq_def, ↓biK.eq_def, ↓stK.eq_def, ↓apK.eq_def, ↓apD.eq_def, ↓apS.eq_def, nxt, put, setT, setB, delB, lkT_n, lkT_c, lkB_n, lkB_c, ev, ofC, inT, ofA, ofRet, dV_n, dV_c, getD_enc, toDs_dV, List.head?_cons, List.length_map, Option.toArray_some, Option.toArray_none, Int.toNat_natCast, slOf, TyK.agg, vcells, splice, strip, stripP, gOf, allP, rowV, toDs, toD, toA, toAs, headOps, tailOps, isT, addN, Op.operands, Call.operands, List.map_cons, List.map_nil, List.drop_zero, List.drop_succ_cons, List.take_succ_cons, List.take_zero, List.length_cons, List.length_nil, List.getElem?_cons_zero, List.getElem?_cons_succ, List.getElem?_toArray, Option.bind_some, Option.map_some, Option.map_none, List.append_nil, List.nil_append, List.cons_append, if_true, if_false, reduceIte, Nat.reduceEqDiff, Nat.reduceAdd, Nat.reduceSub, Int.reduceToNat, Nat.reduceLeDiff, Nat.reduceLT, and_false, and_self, Nat.zero_add, Nat.add_zero, reduceCtorEq, Option.getD_some, Option.getD_none, Option.isSome_some, Option.isSome_none, forall_const, true_and, and_true, true_implies, Bool.true_and, Bool.false_and, Bool.and_true, Bool.and_false, Bool.true_or, Bool.false_or, Bool.or_true, Bool.or_false, beq_self_eq_true, zipM, zcells, Value.cells, Value.oneCell', List.toList_toArray, Array.toList_append, Bool.not_not, List.cons.injEq, Int.reduceEq, eq_self, false_and, Bool.not_true, Bool.not_false, ne_eq, not_false_eq_true, imp_self, implies_true, av_bt, av_bf, av_and, av_or, av_nf, av_tt, av_n1, av_n2, av_t1, av_tp, retQ, retL, resV, RetV, RetOk, SubL, snocE, entD_len, entD_take, entD_hd, entD_ln, entD_ic, entD_d1, entD_d2, entD_d3, entD_d4, entD_d5, entD_d6, entD_d7, homD_len, homD_take, homD_hd, homD_ln, homD_ic, homD_d1, homD_d2, intD_len, intD_take, intD_hd, intD_ln, intD_ic, ty_39, ty_3, ty_22, ty_30, ty_4, ty_26, hv]; try simp (disch := omega) only [av_w, av_t1, av_tp, Int.toNat_natCast]))
    exact Sub.refl _
  | true =>
    have hf := fineL_of hv
    have h24 := hf.few
    repeat' (first
      | (with_reducible refine aw_seq ?_)
      | ((with_reducible refine twoG_intro ?_ ?_) <;> intro hTw <;> first | (exact Bool.noConfusion hTw) | ((try simp only [hTw, Bool.not_true, Bool.not_false, Bool.true_and, Bool.false_and, Bool.and_true, Bool.and_false, Bool.true_or, Bool.false_or, Bool.or_true, Bool.or_false]); (first | (guard_hyp hTw : true = true; clear hTw) | (guard_hyp hTw : false = false; clear hTw) | (revert hTw; intro _))))
      | ((with_reducible refine two_intro ?_ ?_) <;> intro hTw <;> first | (exact Bool.noConfusion hTw) | ((first | (guard_hyp hTw : true = true; clear hTw) | (guard_hyp hTw : false = false; clear hTw) | (revert hTw; intro _))))
      | ((with_reducible refine And.intro ?_ ?_); (focus (first | omega | rfl | decide | grind)))
      | (with_reducible refine aw_block ?_)
      | (with_reducible refine aw_scope ?_)
      | ((first
          | ((with_reducible refine aw_regionA T_ok ?_ ?_); (focus kernel_rfl))
          | ((with_reducible refine aw_drawnA T_ok ?_ ?_ ?_ ?_); (focus kernel_rfl); (focus kernel_rfl); (focus kernel_rfl))
          | ((with_reducible refine callK_intro (hsane_spec) (by with_unfolding_all rfl) ?_ ?_); (focus kernel_rfl))
          | ((with_reducible refine callI_spec (hsane_spec) (by with_unfolding_all rfl) ?_ ?_ ?_); (focus kernel_rfl); (focus kernel_rfl))
          | ((with_reducible refine callK_intro (hvalid_spec l person day time hl) (by with_unfolding_all rfl) ?_ ?_); (focus kernel_rfl))
          | ((with_reducible refine callI_spec (hvalid_spec l person day time hl) (by with_unfolding_all rfl) ?_ ?_ ?_); (focus kernel_rfl); (focus kernel_rfl))
          | (with_reducible refine aw_label ?_)
          | ((with_reducible refine aw_rfM ?_ ?_); (focus kernel_rfl))
          | (with_reducible refine aw_skip ?_)
          | (with_reducible refine aw_exit ?_)
          | ((with_reducible refine aw_condM ?_ ?_); (focus kernel_rfl))
          | (with_reducible refine aw_ret ?_)
        ); simp only [↓rwp.eq_def, ↓sop.eq_def, ↓slotK.eq_def, inV, shT, unT, inQ, rfQ, rfEnd, resOf, pickT, setP, ydA, ydQ, rowW, vD, fillV,  ↓gop.eq_def, ↓hop.eq_def, ↓hopH.eq_def, ↓hwp.eq_def, ↓ldV.eq_def, ↓ldK.eq_def, ↓ixK.eq_def, ↓addOff.eq_def, ↓exK.eq_def, ↓notK.eq_def, ↓pickK.eq_def, ↓iop2.eq_def, ↓binK.eq_def, ↓eqop.eq_def, icells, ↓iop.eq_def, ↓cutK.eq_def, ↓lenK.eq_def, ↓lenM.eq_def, tyInt, ↓lookK.eq_def, ↓mpK.eq_def, keyV, allI, fitK, lkM, upM, dlM, kq, ↓cvK.eq_def, ↓mmK.eq_def, ↓biK.eq_def, ↓stK.eq_def, ↓apK.eq_def, ↓apD.eq_def, ↓apS.eq_def, nxt, put, setT, setB, delB, lkT_n, lkT_c, lkB_n, lkB_c, ev, ofC, inT, ofA, ofRet, dV_n, dV_c, getD_enc, toDs_dV, List.head?_cons, List.length_map, Option.toArray_some, Option.toArray_none, Int.toNat_natCast, slOf, TyK.agg, vcells, splice, strip, stripP, gOf, allP, rowV, toDs, toD, toA, toAs, headOps, tailOps, isT, addN, Op.operands, Call.operands, List.map_cons, List.map_nil, List.drop_zero, List.drop_succ_cons, List.take_succ_cons, List.take_zero, List.length_cons, List.length_nil, List.getElem?_cons_zero, List.getElem?_cons_succ, List.getElem?_toArray, Option.bind_some, Option.map_some, Option.map_none, List.append_nil, List.nil_append, List.cons_append, if_true, if_false, reduceIte, Nat.reduceEqDiff, Nat.reduceAdd, Nat.reduceSub, Int.reduceToNat, Nat.reduceLeDiff, Nat.reduceLT, and_false, and_self, Nat.zero_add, Nat.add_zero, reduceCtorEq, Option.getD_some, Option.getD_none, Option.isSome_some, Option.isSome_none, forall_const, true_and, and_true, true_implies, Bool.true_and, Bool.false_and, Bool.and_true, Bool.and_false, Bool.true_or, Bool.false_or, Bool.or_true, Bool.or_false, beq_self_eq_true, zipM, zcells, Value.cells, Value.oneCell', List.toList_toArray, Array.toList_append, Bool.not_not, List.cons.injEq, Int.reduceEq, eq_self, false_and, Bool.not_true, Bool.not_false, ne_eq, not_false_eq_true, imp_self, implies_true, av_bt, av_bf, av_and, av_or, av_nf, av_tt, av_n1, av_n2, av_t1, av_tp, retQ, retL, resV, RetV, RetOk, SubL, snocE, entD_len, entD_take, entD_hd, entD_ln, entD_ic, entD_d1, entD_d2, entD_d3, entD_d4, entD_d5, entD_d6, entD_d7, homD_len, homD_take, homD_hd, homD_ln, homD_ic, homD_d1, homD_d2, intD_len, intD_take, intD_hd, intD_ln, intD_ic, ty_39, ty_3, ty_22, ty_30, ty_4, ty_26, hv]; try simp (disch := omega) only [av_w, av_t1, av_tp, Int.toNat_natCast]))
    refine aw_loopI (fun k : Nat => ⟨[(0, vEs l), (1, vI person), (2, vI day), (3, vI time), (9, .ow 0 8 (entD default) (((l.take k).filter (countsB day time)).map entD)), (20, vEs l), (21, vI l.length), (22, vI k)], [(0, .tok 39 8 ((l.take k).filter (countsB day time)).length)], 1⟩) (fun k => k ≤ l.length) (fun k => l.length - k) 0 (Nat.zero_le _) (wk_of [(0, none)] rfl rfl ?_ ?_) ?_
    · simp only [wkT, wkB, wkB1, subV, subVs, subD, subB, lkN_n, lkN_c, lkT_n, lkT_c, lkB_n, lkB_c, if_true, if_false, reduceIte, Nat.reduceEqDiff, true_and, and_true, and_self, inT, ofA]
      (repeat' (first | exact trivial | rfl | exact rfl | refine And.intro ?_ ?_))
    · simp only [wkT, wkB, wkB1, subV, subVs, subD, subB, lkN_n, lkN_c, lkT_n, lkT_c, lkB_n, lkB_c, if_true, if_false, reduceIte, Nat.reduceEqDiff, true_and, and_true, and_self, inT, ofA]
      (repeat' (first | exact trivial | rfl | exact rfl | refine And.intro ?_ ?_))
    intro k hk
    have hp := take_filter_len l (countsB day time) k
    have hsub : List.Sublist (l.filter (countsB day time)) l := List.filter_sublist
    have hlm : (l.filter (countsB day time)).length ≤ l.length := List.length_filter_le _ _
    have hs := hsame_spec l (l.filter (countsB day time)) person day time hl (okE_kind hk') (by omega) (okE_kind fun x hx => hk' x (hsub.subset hx))
    rw [sameL, (hf.sub hsub).errO, hf.errO, (counted_plain hf).1, (counted_plain hf).2] at hs
    rcases Nat.lt_or_ge k l.length with hlt | hge
    · have hsc := take_filter_succ l (countsB day time) k hlt
      have hd := ltd hlt
      have hmd : countsB day time (l.getD k default) = (decide ((l.getD k default).frm ≤ day) && decide (day < (l.getD k default).til) && decide ((l.getD k default).known ≤ time) && decide (time < (l.getD k default).gone)) := rfl
      cases hm : countsB day time (l.getD k default) with
      | true =>
        have hm2 := hmd.symm.trans hm
        repeat' (first
          | (with_reducible refine aw_seq ?_)
          | ((with_reducible refine twoG_intro ?_ ?_) <;> intro hTw <;> first | (exact Bool.noConfusion hTw) | ((try simp only [hTw, Bool.not_true, Bool.not_false, Bool.true_and, Bool.false_and, Bool.and_true, Bool.and_false, Bool.true_or, Bool.false_or, Bool.or_true, Bool.or_false]); (first | (guard_hyp hTw : true = true; clear hTw) | (guard_hyp hTw : false = false; clear hTw) | (revert hTw; intro _))))
          | ((with_reducible refine two_intro ?_ ?_) <;> intro hTw <;> first | (exact Bool.noConfusion hTw) | ((first | (guard_hyp hTw : true = true; clear hTw) | (guard_hyp hTw : false = false; clear hTw) | (revert hTw; intro _))))
          | ((with_reducible refine And.intro ?_ ?_); (focus (first | omega | rfl | decide | grind)))
          | (with_reducible refine aw_block ?_)
          | (with_reducible refine aw_scope ?_)
          | ((first
              | ((with_reducible refine aw_regionA T_ok ?_ ?_); (focus kernel_rfl))
              | ((with_reducible refine aw_drawnA T_ok ?_ ?_ ?_ ?_); (focus kernel_rfl); (focus kernel_rfl); (focus kernel_rfl))
              | (with_reducible refine aw_label ?_)
              | ((with_reducible refine aw_rfM ?_ ?_); (focus kernel_rfl))
              | (with_reducible refine aw_skip ?_)
              | (with_reducible refine aw_exit ?_)
              | ((with_reducible refine aw_condM ?_ ?_); (focus kernel_rfl))
              | (with_reducible refine aw_ret ?_)
            ); simp only [↓rwp.eq_def, ↓sop.eq_def, ↓slotK.eq_def, inV, shT, unT, inQ, rfQ, rfEnd, resOf, pickT, setP, ydA, ydQ, rowW, vD, fillV,  ↓gop.eq_def, ↓hop.eq_def, ↓hopH.eq_def, ↓hwp.eq_def, ↓ldV.eq_def, ↓ldK.eq_def, ↓ixK.eq_def, ↓addOff.eq_def, ↓exK.eq_def, ↓notK.eq_def, ↓pickK.eq_def, ↓iop2.eq_def, ↓binK.eq_def, ↓eqop.eq_def, icells, ↓iop.eq_def, ↓cutK.eq_def, ↓lenK.eq_def, ↓lenM.eq_def, tyInt, ↓lookK.eq_def, ↓mpK.eq_def, keyV, allI, fitK, lkM, upM, dlM, kq, ↓cvK.eq_def, ↓mmK.eq_def, ↓biK.eq_def, ↓stK.eq_def, ↓apK.eq_def, ↓apD.eq_def, ↓apS.eq_def, nxt, put, setT, setB, delB, lkT_n, lkT_c, lkB_n, lkB_c, ev, ofC, inT, ofA, ofRet, dV_n, dV_c, getD_enc, toDs_dV, List.head?_cons, List.length_map, Option.toArray_some, Option.toArray_none, Int.toNat_natCast, slOf, TyK.agg, vcells, splice, strip, stripP, gOf, allP, rowV, toDs, toD, toA, toAs, headOps, tailOps, isT, addN, Op.operands, Call.operands, List.map_cons, List.map_nil, List.drop_zero, List.drop_succ_cons, List.take_succ_cons, List.take_zero, List.length_cons, List.length_nil, List.getElem?_cons_zero, List.getElem?_cons_succ, List.getElem?_toArray, Option.bind_some, Option.map_some, Option.map_none, List.append_nil, List.nil_append, List.cons_append, if_true, if_false, reduceIte, Nat.reduceEqDiff, Nat.reduceAdd, Nat.reduceSub, Int.reduceToNat, Nat.reduceLeDiff, Nat.reduceLT, and_false, and_self, Nat.zero_add, Nat.add_zero, reduceCtorEq, Option.getD_some, Option.getD_none, Option.isSome_some, Option.isSome_none, forall_const, true_and, and_true, true_implies, Bool.true_and, Bool.false_and, Bool.and_true, Bool.and_false, Bool.true_or, Bool.false_or, Bool.or_true, Bool.or_false, beq_self_eq_true, zipM, zcells, Value.cells, Value.oneCell', List.toList_toArray, Array.toList_append, Bool.not_not, List.cons.injEq, Int.reduceEq, eq_self, false_and, Bool.not_true, Bool.not_false, ne_eq, not_false_eq_true, imp_self, implies_true, av_bt, av_bf, av_and, av_or, av_nf, av_tt, av_n1, av_n2, av_t1, av_tp, retQ, retL, resV, RetV, RetOk, SubL, snocE, entD_len, entD_take, entD_hd, entD_ln, entD_ic, entD_d1, entD_d2, entD_d3, entD_d4, entD_d5, entD_d6, entD_d7, homD_len, homD_take, homD_hd, homD_ln, homD_ic, homD_d1, homD_d2, intD_len, intD_take, intD_hd, intD_ln, intD_ic, ty_39, ty_3, ty_22, ty_30, ty_4, ty_26, hd, hm2]; try simp (disch := omega) only [av_w, av_t1, av_tp, Int.toNat_natCast]))
        rw [if_pos hm] at hsc
        refine ⟨k + 1, by omega, by dsimp only; omega, wk_of [(0, some 3)] rfl rfl ?_ ?_⟩
        · simp only [wkT, wkB, wkB1, subV, subVs, subD, subB, lkN_n, lkN_c, lkT_n, lkT_c, lkB_n, lkB_c, if_true, if_false, reduceIte, Nat.reduceEqDiff, true_and, and_true, and_self, inT, ofA]
          exact ⟨by rw [hsc], rfl⟩
        · simp only [wkT, wkB, wkB1, subV, subVs, subD, subB, lkN_n, lkN_c, lkT_n, lkT_c, lkB_n, lkB_c, if_true, if_false, reduceIte, Nat.reduceEqDiff, true_and, and_true, and_self, inT, ofA]
          rw [hsc]; simp
      | false =>
        have hm2 := hmd.symm.trans hm
        repeat' (first
          | (with_reducible refine aw_seq ?_)
          | ((with_reducible refine twoG_intro ?_ ?_) <;> intro hTw <;> first | (exact Bool.noConfusion hTw) | ((try simp only [hTw, Bool.not_true, Bool.not_false, Bool.true_and, Bool.false_and, Bool.and_true, Bool.and_false, Bool.true_or, Bool.false_or, Bool.or_true, Bool.or_false]); (first | (guard_hyp hTw : true = true; clear hTw) | (guard_hyp hTw : false = false; clear hTw) | (revert hTw; intro _))))
          | ((with_reducible refine two_intro ?_ ?_) <;> intro hTw <;> first | (exact Bool.noConfusion hTw) | ((first | (guard_hyp hTw : true = true; clear hTw) | (guard_hyp hTw : false = false; clear hTw) | (revert hTw; intro _))))
          | ((with_reducible refine And.intro ?_ ?_); (focus (first | omega | rfl | decide | grind)))
          | (with_reducible refine aw_block ?_)
          | (with_reducible refine aw_scope ?_)
          | ((first
              | ((with_reducible refine aw_regionA T_ok ?_ ?_); (focus kernel_rfl))
              | ((with_reducible refine aw_drawnA T_ok ?_ ?_ ?_ ?_); (focus kernel_rfl); (focus kernel_rfl); (focus kernel_rfl))
              | (with_reducible refine aw_label ?_)
              | ((with_reducible refine aw_rfM ?_ ?_); (focus kernel_rfl))
              | (with_reducible refine aw_skip ?_)
              | (with_reducible refine aw_exit ?_)
              | ((with_reducible refine aw_condM ?_ ?_); (focus kernel_rfl))
              | (with_reducible refine aw_ret ?_)
            ); simp only [↓rwp.eq_def, ↓sop.eq_def, ↓slotK.eq_def, inV, shT, unT, inQ, rfQ, rfEnd, resOf, pickT, setP, ydA, ydQ, rowW, vD, fillV,  ↓gop.eq_def, ↓hop.eq_def, ↓hopH.eq_def, ↓hwp.eq_def, ↓ldV.eq_def, ↓ldK.eq_def, ↓ixK.eq_def, ↓addOff.eq_def, ↓exK.eq_def, ↓notK.eq_def, ↓pickK.eq_def, ↓iop2.eq_def, ↓binK.eq_def, ↓eqop.eq_def, icells, ↓iop.eq_def, ↓cutK.eq_def, ↓lenK.eq_def, ↓lenM.eq_def, tyInt, ↓lookK.eq_def, ↓mpK.eq_def, keyV, allI, fitK, lkM, upM, dlM, kq, ↓cvK.eq_def, ↓mmK.eq_def, ↓biK.eq_def, ↓stK.eq_def, ↓apK.eq_def, ↓apD.eq_def, ↓apS.eq_def, nxt, put, setT, setB, delB, lkT_n, lkT_c, lkB_n, lkB_c, ev, ofC, inT, ofA, ofRet, dV_n, dV_c, getD_enc, toDs_dV, List.head?_cons, List.length_map, Option.toArray_some, Option.toArray_none, Int.toNat_natCast, slOf, TyK.agg, vcells, splice, strip, stripP, gOf, allP, rowV, toDs, toD, toA, toAs, headOps, tailOps, isT, addN, Op.operands, Call.operands, List.map_cons, List.map_nil, List.drop_zero, List.drop_succ_cons, List.take_succ_cons, List.take_zero, List.length_cons, List.length_nil, List.getElem?_cons_zero, List.getElem?_cons_succ, List.getElem?_toArray, Option.bind_some, Option.map_some, Option.map_none, List.append_nil, List.nil_append, List.cons_append, if_true, if_false, reduceIte, Nat.reduceEqDiff, Nat.reduceAdd, Nat.reduceSub, Int.reduceToNat, Nat.reduceLeDiff, Nat.reduceLT, and_false, and_self, Nat.zero_add, Nat.add_zero, reduceCtorEq, Option.getD_some, Option.getD_none, Option.isSome_some, Option.isSome_none, forall_const, true_and, and_true, true_implies, Bool.true_and, Bool.false_and, Bool.and_true, Bool.and_false, Bool.true_or, Bool.false_or, Bool.or_true, Bool.or_false, beq_self_eq_true, zipM, zcells, Value.cells, Value.oneCell', List.toList_toArray, Array.toList_append, Bool.not_not, List.cons.injEq, Int.reduceEq, eq_self, false_and, Bool.not_true, Bool.not_false, ne_eq, not_false_eq_true, imp_self, implies_true, av_bt, av_bf, av_and, av_or, av_nf, av_tt, av_n1, av_n2, av_t1, av_tp, retQ, retL, resV, RetV, RetOk, SubL, snocE, entD_len, entD_take, entD_hd, entD_ln, entD_ic, entD_d1, entD_d2, entD_d3, entD_d4, entD_d5, entD_d6, entD_d7, homD_len, homD_take, homD_hd, homD_ln, homD_ic, homD_d1, homD_d2, intD_len, intD_take, intD_hd, intD_ln, intD_ic, ty_39, ty_3, ty_22, ty_30, ty_4, ty_26, hd, hm2]; try simp (disch := omega) only [av_w, av_t1, av_tp, Int.toNat_natCast]))
        rw [if_neg (by rw [hm]; simp), List.append_nil] at hsc
        refine ⟨k + 1, by omega, by dsimp only; omega, wk_of [(0, some 0)] rfl rfl ?_ ?_⟩
        · simp only [wkT, wkB, wkB1, subV, subVs, subD, subB, lkN_n, lkN_c, lkT_n, lkT_c, lkB_n, lkB_c, if_true, if_false, reduceIte, Nat.reduceEqDiff, true_and, and_true, and_self, inT, ofA]
          exact ⟨by rw [hsc], rfl⟩
        · simp only [wkT, wkB, wkB1, subV, subVs, subD, subB, lkN_n, lkN_c, lkT_n, lkT_c, lkB_n, lkB_c, if_true, if_false, reduceIte, Nat.reduceEqDiff, true_and, and_true, and_self, inT, ofA]
          rw [hsc]
    · obtain rfl : k = l.length := by omega
      have hd := ged (Nat.le_refl l.length)
      rw [List.take_length]
      repeat' (first
        | (with_reducible refine aw_seq ?_)
        | ((with_reducible refine twoG_intro ?_ ?_) <;> intro hTw <;> first | (exact Bool.noConfusion hTw) | ((try simp only [hTw, Bool.not_true, Bool.not_false, Bool.true_and, Bool.false_and, Bool.and_true, Bool.and_false, Bool.true_or, Bool.false_or, Bool.or_true, Bool.or_false]); (first | (guard_hyp hTw : true = true; clear hTw) | (guard_hyp hTw : false = false; clear hTw) | (revert hTw; intro _))))
        | ((with_reducible refine two_intro ?_ ?_) <;> intro hTw <;> first | (exact Bool.noConfusion hTw) | ((first | (guard_hyp hTw : true = true; clear hTw) | (guard_hyp hTw : false = false; clear hTw) | (revert hTw; intro _))))
        | ((with_reducible refine And.intro ?_ ?_); (focus (first | omega | rfl | decide | grind)))
        | (with_reducible refine aw_block ?_)
        | (with_reducible refine aw_scope ?_)
        | ((first
            | ((with_reducible refine aw_regionA T_ok ?_ ?_); (focus kernel_rfl))
            | ((with_reducible refine aw_drawnA T_ok ?_ ?_ ?_ ?_); (focus kernel_rfl); (focus kernel_rfl); (focus kernel_rfl))
            | ((with_reducible refine callK_intro (hs) (by with_unfolding_all rfl) ?_ ?_); (focus kernel_rfl))
            | ((with_reducible refine callI_spec (hs) (by with_unfolding_all rfl) ?_ ?_ ?_); (focus kernel_rfl); (focus kernel_rfl))
            | (with_reducible refine aw_label ?_)
            | ((with_reducible refine aw_rfM ?_ ?_); (focus kernel_rfl))
            | (with_reducible refine aw_skip ?_)
            | (with_reducible refine aw_exit ?_)
            | ((with_reducible refine aw_condM ?_ ?_); (focus kernel_rfl))
            | (with_reducible refine aw_ret ?_)
          ); simp only [↓rwp.eq_def, ↓sop.eq_def, ↓slotK.eq_def, inV, shT, unT, inQ, rfQ, rfEnd, resOf, pickT, setP, ydA, ydQ, rowW, vD, fillV,  ↓gop.eq_def, ↓hop.eq_def, ↓hopH.eq_def, ↓hwp.eq_def, ↓ldV.eq_def, ↓ldK.eq_def, ↓ixK.eq_def, ↓addOff.eq_def, ↓exK.eq_def, ↓notK.eq_def, ↓pickK.eq_def, ↓iop2.eq_def, ↓binK.eq_def, ↓eqop.eq_def, icells, ↓iop.eq_def, ↓cutK.eq_def, ↓lenK.eq_def, ↓lenM.eq_def, tyInt, ↓lookK.eq_def, ↓mpK.eq_def, keyV, allI, fitK, lkM, upM, dlM, kq, ↓cvK.eq_def, ↓mmK.eq_def, ↓biK.eq_def, ↓stK.eq_def, ↓apK.eq_def, ↓apD.eq_def, ↓apS.eq_def, nxt, put, setT, setB, delB, lkT_n, lkT_c, lkB_n, lkB_c, ev, ofC, inT, ofA, ofRet, dV_n, dV_c, getD_enc, toDs_dV, List.head?_cons, List.length_map, Option.toArray_some, Option.toArray_none, Int.toNat_natCast, slOf, TyK.agg, vcells, splice, strip, stripP, gOf, allP, rowV, toDs, toD, toA, toAs, headOps, tailOps, isT, addN, Op.operands, Call.operands, List.map_cons, List.map_nil, List.drop_zero, List.drop_succ_cons, List.take_succ_cons, List.take_zero, List.length_cons, List.length_nil, List.getElem?_cons_zero, List.getElem?_cons_succ, List.getElem?_toArray, Option.bind_some, Option.map_some, Option.map_none, List.append_nil, List.nil_append, List.cons_append, if_true, if_false, reduceIte, Nat.reduceEqDiff, Nat.reduceAdd, Nat.reduceSub, Int.reduceToNat, Nat.reduceLeDiff, Nat.reduceLT, and_false, and_self, Nat.zero_add, Nat.add_zero, reduceCtorEq, Option.getD_some, Option.getD_none, Option.isSome_some, Option.isSome_none, forall_const, true_and, and_true, true_implies, Bool.true_and, Bool.false_and, Bool.and_true, Bool.and_false, Bool.true_or, Bool.false_or, Bool.or_true, Bool.or_false, beq_self_eq_true, zipM, zcells, Value.cells, Value.oneCell', List.toList_toArray, Array.toList_append, Bool.not_not, List.cons.injEq, Int.reduceEq, eq_self, false_and, Bool.not_true, Bool.not_false, ne_eq, not_false_eq_true, imp_self, implies_true, av_bt, av_bf, av_and, av_or, av_nf, av_tt, av_n1, av_n2, av_t1, av_tp, retQ, retL, resV, RetV, RetOk, SubL, snocE, entD_len, entD_take, entD_hd, entD_ln, entD_ic, entD_d1, entD_d2, entD_d3, entD_d4, entD_d5, entD_d6, entD_d7, homD_len, homD_take, homD_hd, homD_ln, homD_ic, homD_d1, homD_d2, intD_len, intD_take, intD_hd, intD_ln, intD_ic, ty_39, ty_3, ty_22, ty_30, ty_4, ty_26, hd]; try simp (disch := omega) only [av_w, av_t1, av_tp, Int.toNat_natCast]))
      exact Sub.of_eq (congrArg aB (by simp))
end Go.Proofs.Ytfmefdeldgmhpaa
