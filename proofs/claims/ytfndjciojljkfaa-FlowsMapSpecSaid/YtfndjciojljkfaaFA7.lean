import Derived.Test.YtfndjciojljkfaaFA1
import Derived.Test.YtfndjciojljkfaaFA6
import Derived.SizedLaws
namespace Go.Proofs.Ytfndjciojljkfaa
set_option linter.unusedSimpArgs false
open Go.ChangeShapes Go.WideShapes Go.ChangeAt Go.RowKit
set_option linter.unusedVariables false

def Opens {α : Type} (P : Program) (t : TypeId) (R : RepT α) : Prop :=
  ∀ {H : Type} {enc : TypeId × Value → H} {W : World} {n : Nat} {cs : List Value} {x : DataW H × List MemPlace}, DataW.trod enc P W 0 (fun _ => true) true n t cs = some x → (∀ k ∈ x.1.weights P t, k ≤ reachBytes) → ∃ y : α, R (Now W) W y cs
section
variable {α β : Type} {P : Program} {t e : TypeId} {sz : Nat} {R : RepT α}
theorem opens_int {k : IntKind} (hu : P.underlying t = some (.int k)) : Opens P t (RI k) := fun h _ => by
  obtain ⟨n, e, _, hw⟩ := DataW.trod_int hu h
  exact ⟨n, e, hw⟩
theorem opens_bool (hu : P.underlying t = some .bool) : Opens P t RB := fun h _ => by
  obtain ⟨b, e, _⟩ := DataW.trod_bool hu h
  exact ⟨b, e⟩
theorem opens_u8 (hu : P.underlying t = some (.int .u8)) : Opens P t RU8 := fun h _ => by
  obtain ⟨n, e, _, hw⟩ := DataW.trod_int hu h
  have hz : 0 ≤ n ∧ n ≤ 255 := by simpa [Lit.wf, IntKind.min, IntKind.max, IntKind.signed, IntKind.bits] using hw
  refine ⟨UInt8.ofNat n.toNat, ?_⟩
  rw [e]
  unfold RU8 byteV
  have : ((UInt8.ofNat n.toNat).toNat : Int) = n := by rw [UInt8.toNat_ofNat']; omega
  rw [this]
theorem opens_str (hu : P.underlying t = some .string) : Opens P t RStr := fun h hw => by
  obtain ⟨s, e, rfl, _⟩ := DataW.trod_string hu h
  have hs : s.data.toList.length ≤ reachBytes := hw _ (by simp [DataW.weights])
  refine ⟨s.data.toList, by rw [e], ?_⟩
  unfold reachBytes at hs
  omega
theorem mapM_get {f : Nat → Option Value} : ∀ {l : List Nat} {cs : List Value}, l.mapM f = some cs → cs.length = l.length ∧ ∀ (j : Nat) (u : Value), cs[j]? = some u → ∃ i : Nat, l[j]? = some i ∧ f i = some u
  | [], cs, h => by
    simp at h
    subst h
    exact ⟨rfl, fun j u h => by simp at h⟩
  | i :: l, cs, h => by
    rw [List.mapM_cons] at h
    cases h1 : f i with
    | none => simp [h1] at h
    | some u =>
      cases h2 : l.mapM f with
      | none => simp [h1, h2] at h
      | some us =>
        simp [h1, h2] at h
        subst h
        obtain ⟨hl, hg⟩ := mapM_get h2
        refine ⟨by simp [hl], fun j v hv => ?_⟩
        cases j with
        | zero => simp at hv; subst hv; exact ⟨i, rfl, h1⟩
        | succ j => simpa using hg j v (by simpa using hv)
theorem cells_get {w : World} {a : Addr} {n : Nat} {cs : List Value} (h : w.cells? 0 a n = some cs) : cs.length = n ∧ ∀ (j : Nat) (u : Value), cs[j]? = some u → w.cell? (a.add j) = some u := by
  unfold World.cells? at h
  rw [if_pos (Nat.zero_le _)] at h
  obtain ⟨hl, hg⟩ := mapM_get h
  refine ⟨by simpa using hl, fun j u hu => ?_⟩
  obtain ⟨i, hi, hf⟩ := hg j u hu
  have : i = j := by
    have hj : j < n := by have := (List.getElem?_eq_some_iff.1 hu).1; rw [hl] at this; simpa using this
    rw [List.getElem?_range hj] at hi
    exact (Option.some.inj hi).symm
  rw [this] at hf
  exact hf
theorem weights_all {H : Type} {d : DataW H} {k : Nat} : ∀ {l : List (DataW H)}, d ∈ l → k ∈ d.weights P e → k ∈ DataW.weightsAll P e l
  | [], h, _ => by cases h
  | x :: l, h, hk => by
    simp only [DataW.weightsAll, List.mem_append]
    rcases List.mem_cons.1 h with rfl | h
    · exact .inl hk
    · exact .inr (weights_all h hk)
theorem pick_list {Q : Nat → α → Prop} : ∀ n, (∀ i, i < n → ∃ y, Q i y) → ∃ l : List α, l.length = n ∧ ∀ i (h : i < l.length), Q i l[i]
  | 0, _ => ⟨[], rfl, fun i h => by cases h⟩
  | n + 1, h => by
    obtain ⟨l, hl, hq⟩ := pick_list n (fun i hi => h i (by omega))
    obtain ⟨y, hy⟩ := h n (by omega)
    refine ⟨l ++ [y], by simp [hl], fun i hi => ?_⟩
    by_cases hi' : i < l.length
    · rw [List.getElem_append_left hi']; exact hq i hi'
    · have : i = l.length := by simp at hi; omega
      subst this
      simp [hl, hy]
theorem opens_slice (g : Good sz R) (ho : Opens P e R) (hu : P.underlying t = some (.slice e)) (hc : P.cellsOf e = sz) (hpos : 0 < sz) (hb : 1 ≤ P.bytesOf e) : Opens P t (RS sz R) := by
  intro H enc W n cs x h hw
  rcases DataW.trod_slice hu h with ⟨rfl, _⟩ | ⟨a, len, cap, elems, rest, m, rfl, rfl, rfl, _, hl, _, hlen, hel, _, _⟩
  · exact ⟨[], none, 0, rfl, Nat.le_refl _, by simp, RRow.nil _⟩
  · simp only [DataW.weights, hu] at hw
    have hsz := hw _ (List.mem_cons_self ..)
    rw [List.length_map, List.length_map] at hsz
    have hbig : elems.length ≤ 140737488351232 := by
      unfold reachBytes at hsz
      have := Nat.mul_le_mul_left (elems.length + rest.length) hb
      omega
    rw [hc] at hel
    by_cases hl0 : len = 0
    · subst hl0
      exact ⟨[], some a, cap, rfl, by simp, by simp, RRow.nil _⟩
    have hs : a.spot = none := by
      have h0 := hel 0 (by omega)
      rw [List.getElem?_eq_getElem (by omega)] at h0
      cases hcs : W.cells? 0 (a.add (0 * sz)) sz with
      | none => rw [hcs] at h0; cases h0
      | some cs =>
        obtain ⟨hl2, hg⟩ := cells_get hcs
        have h9 := World.cell?_spot (hg 0 cs[0] (by simp))
        simpa [Addr.add] using h9
    obtain ⟨b, off, spot⟩ := a
    subst hs
    have key : ∀ i, i < len → ∃ y : α, ∃ cs, Now W b ∧ R (Now W) W y cs ∧ ∀ j u, cs[j]? = some u → W.cell? ⟨b, off + i * sz + j, none⟩ = some u := by
      intro i hi
      have h0 := hel i hi
      have he : elems[i]? = some (elems[i]'(by omega)) := List.getElem?_eq_getElem (by omega)
      rw [he] at h0
      cases hcs : W.cells? 0 (Addr.add ⟨b, off, none⟩ (i * sz)) sz with
      | none => rw [hcs] at h0; cases h0
      | some cs =>
        rw [hcs, Option.bind_some] at h0
        obtain ⟨y, hy⟩ := ho h0 (fun k hk => hw k (by
          refine List.mem_cons_of_mem _ (List.mem_append.2 (.inl ?_))
          exact weights_all (List.mem_map.2 ⟨_, List.getElem_mem (by omega), rfl⟩) hk))
        obtain ⟨hl2, hg⟩ := cells_get hcs
        have hc0 := hg 0 cs[0] (by simp)
        refine ⟨y, cs, ?_, hy, fun j u hu => ?_⟩
        · have := World.block_lt_of_cell? _ _ hc0
          rw [add_plain, add_plain] at this
          exact this
        · have := hg j u hu
          rw [add_plain, add_plain] at this
          exact this
    obtain ⟨l, hll, hq⟩ := pick_list len key
    refine ⟨l, some ⟨b, off, none⟩, cap, by rw [hll], by rw [hll]; exact hl, by rw [hll, ← hlen]; exact hbig, fun i hi => ?_⟩
    obtain ⟨cs, h1, h2, h3⟩ := hq i hi
    exact ⟨b, off, cs, rfl, h1, h2, h3⟩

/-- a struct's fields from the one at offset o on -/
def OpensL {γ : Type} (P : Program) (l : List Field) (o : Nat) (T : RepT γ) : Prop :=
  ∀ {H : Type} {enc : TypeId × Value → H} {W : World} {n : Nat} {cs : List Value} {xs : List (DataW H × List MemPlace)}, xs.length = l.length → (cs.length + o = (l.map fun f => P.cellsOf f.type).foldl (· + ·) o) →
    (∀ (i : Nat) (f : Field), l[i]? = some f → o ≤ f.offset ∧ DataW.trod enc P W 0 (fun _ => true) true n f.type ((cs.drop (f.offset - o)).take (P.cellsOf f.type)) = xs[i]?) →
    (∀ (i : Nat) (f : Field) (x : DataW H × List MemPlace), l[i]? = some f → xs[i]? = some x → ∀ k ∈ x.1.weights P f.type, k ≤ reachBytes) → ∃ y : γ, T (Now W) W y cs
def RNil : RepT Unit := fun _ _ _ cs => cs = []
theorem opensL_nil {o : Nat} : OpensL P [] o RNil := fun hx hl _ _ => by
  simp at hl
  exact ⟨(), hl⟩
theorem foldl_add (l : List Nat) (o : Nat) : l.foldl (· + ·) o = o + l.foldl (· + ·) 0 := by
  induction l generalizing o with
  | nil => simp
  | cons x l ih => rw [List.foldl_cons, List.foldl_cons, ih (o + x), ih (0 + x)]; omega
theorem opensL_cons {f : Field} {l : List Field} {o s1 : Nat} {S : RepT β} (g : Good s1 R) (ho : Opens P f.type R) (hs : P.cellsOf f.type = s1) (hof : f.offset = o) (hall : ∀ f' ∈ l, o + s1 ≤ f'.offset) (hl : OpensL P l (o + s1) S) : OpensL P (f :: l) o (RP R S) := by
  intro H enc W n cs xs hx hlen hel hw
  rw [List.map_cons, List.foldl_cons, foldl_add, hs] at hlen
  match xs, hx with
  | x :: xs, hx =>
    have h0 := (hel 0 f rfl).2
    rw [hof, Nat.sub_self, List.drop_zero, hs] at h0
    obtain ⟨y, hy⟩ := ho h0 (hw 0 f x rfl rfl)
    obtain ⟨z, hz⟩ := hl (cs := cs.drop s1) (xs := xs) (n := n) (enc := enc) (by simpa using hx) (by rw [List.length_drop, foldl_add]; omega) (fun i f' hf => by
      have h1 := hel (i + 1) f' (by simpa using hf)
      have h2 := hall f' (List.mem_of_getElem? hf)
      refine ⟨h2, ?_⟩
      have h3 := h1.2
      rw [List.drop_drop, show s1 + (f'.offset - (o + s1)) = f'.offset - o by omega]
      simpa using h3) (fun i f' x' hf hx' => hw (i + 1) f' x' (by simpa using hf) (by simpa using hx'))
    exact ⟨(y, z), cs.take s1, cs.drop s1, (List.take_append_drop ..).symm, hy, hz⟩
theorem opens_struct {fs : Array Field} {γ : Type} {T : RepT γ} (hu : P.underlying t = some (.struct fs)) (hc : P.cellsOf t = (fs.toList.map fun f => P.cellsOf f.type).foldl (· + ·) 0) (hT : OpensL P fs.toList 0 T) : Opens P t T := by
  intro H enc W n cs x h hw
  obtain ⟨xs, m, rfl, rfl, hl, hlen, hf⟩ := DataW.trod_struct hu h
  refine hT (xs := xs) (n := m) (enc := enc) (by simpa using hlen) (by rw [hl, hc]; rfl) (fun i f hi => ⟨Nat.zero_le _, by simpa using hf i f (by simpa using hi)⟩) (fun i f x hi hx k hk => hw k ?_)
  simp only [DataW.weights, hu]
  exact DataW.weights_mem_each (by rw [List.getElem?_map, hi]; rfl) (by rw [List.getElem?_map, hx]; rfl) k hk
theorem opens_map {γ : Type} {T : RepT γ} {f : α → γ} (h : Opens P t R) (hm : ∀ {F w x cs}, R F w x cs → T F w (f x) cs) : Opens P t T := fun h1 h2 => by
  obtain ⟨y, hy⟩ := h h1 h2
  exact ⟨f y, hm hy⟩
/-- an array's elements -/
def RArr (n : Nat) (R : RepT α) : RepT (List α) := fun F w l cs => l.length = n ∧ CellsL R F w l cs
theorem good_array {n : Nat} (g : Good sz R) : Good (n * sz) (RArr n R) :=
  ⟨fun hF hk _ _ h => ⟨h.1, h.2.keep g hF hk⟩, fun h => by rw [h.2.len g, h.1], fun h => h.2.one g⟩
theorem cellsL_of {F : Nat → Prop} {w : World} (hsz : 0 < sz) : ∀ {l : List α} {cs : List Value}, cs.length = l.length * sz → (∀ i (h : i < l.length), R F w l[i] ((cs.drop (i * sz)).take sz)) → CellsL R F w l cs
  | [], cs, h, _ => by simp at h; exact h
  | x :: l, cs, h, hi => by
    refine ⟨cs.take sz, cs.drop sz, (List.take_append_drop ..).symm, (by have := hi 0 (by simp); rw [Nat.zero_mul, List.drop_zero] at this; exact this), cellsL_of hsz (by rw [List.length_drop, h, List.length_cons, Nat.add_mul]; omega) (fun i hi' => ?_)⟩
    have := hi (i + 1) (by simpa using hi')
    rw [List.drop_drop, show sz + i * sz = (i + 1) * sz by rw [Nat.add_mul]; omega]
    simpa using this
theorem opens_array {n : Nat} (ho : Opens P e R) (hu : P.underlying t = some (.array n e)) (hc : P.cellsOf e = sz) (hpos : 0 < sz) (ht : P.cellsOf t = n * sz) : Opens P t (RArr n R) := by
  intro H enc W fuel cs x h hw
  obtain ⟨xs, m, rfl, rfl, hl, hlen, hf⟩ := DataW.trod_array hu h
  rw [hc] at hf
  have key : ∀ i, i < n → ∃ y : α, R (Now W) W y ((cs.drop (i * sz)).take sz) := fun i hi => by
    have h0 := hf i hi
    rw [List.getElem?_eq_getElem (by omega)] at h0
    refine ho h0 (fun k hk => hw k ?_)
    simp only [DataW.weights, hu]
    exact weights_all (List.mem_map.2 ⟨_, List.getElem_mem (by omega), rfl⟩) hk
  obtain ⟨l, hll, hq⟩ := pick_list n key
  exact ⟨l, hll, cellsL_of hpos (by rw [hl, ht, hll]) (fun i hi => hq i hi)⟩

theorem sized {H : Type} {ts : List TypeId} {ds : List (DataW H)} (h : (DataW.weightsEach P ts ds).all (· ≤ reachBytes) = true) {j : Nat} {t : TypeId} {d : DataW H} (ht : ts[j]? = some t) (hd : ds[j]? = some d) : ∀ k ∈ d.weights P t, k ≤ reachBytes := fun k hk => by
  have := List.all_eq_true.1 h _ (DataW.weights_mem_each ht hd k hk)
  simpa using this
section
variable {H : Type} {enc : TypeId × Value → H} {W : World} {base : Nat} {v : Value} {d : DataW H} {ps : List MemPlace}
theorem open_struct {fs : Array Field} (ho : Opens P t R) (hu : P.underlying t = some (.struct fs)) (hok : Value.okWide P W .any base t v) (h : DataW.Trod enc P W 0 (fun _ => true) true t v d ps) (hw : ∀ k ∈ d.weights P t, k ≤ reachBytes) :
    ∃ x cs, v = .agg cs ∧ R (Now W) W x cs.toList := by
  simp only [Value.okWide, hu] at hok
  obtain ⟨cs, rfl, _⟩ := hok
  obtain ⟨fuel, hf⟩ := h
  obtain ⟨x, hx⟩ := ho hf hw
  exact ⟨x, cs, rfl, hx⟩
theorem open_row (ho : Opens P t (RS sz R)) (hu : P.underlying t = some (.slice e)) (hok : Value.okWide P W .any base t v) (h : DataW.Trod enc P W 0 (fun _ => true) true t v d ps) (hw : ∀ k ∈ d.weights P t, k ≤ reachBytes) :
    ∃ a l cap, v = .slice a l.length cap ∧ l.length ≤ cap ∧ l.length ≤ 140737488351232 ∧ Row sz R W l a := by
  obtain ⟨a0, len, cp, rfl⟩ := okWide_slice hu hok
  obtain ⟨fuel, hf⟩ := h
  obtain ⟨l, a, cap, e, h1, h2, h3⟩ := ho hf hw
  simp [Value.cells] at e
  obtain ⟨rfl, rfl, rfl⟩ := e
  exact ⟨_, l, _, rfl, h1, h2, h3⟩
theorem open_int64 (hu : P.underlying t = some (.int .i64)) (hok : Value.okWide P W .any base t v) (h : DataW.Trod enc P W 0 (fun _ => true) true t v d ps) : ∃ n : Int, v = .int .i64 n ∧ i64R n := by
  obtain ⟨z, rfl, rfl, rfl, wz⟩ := open_int hu hok h
  exact ⟨z, rfl, wf_i64 wz⟩
end
end
end Go.Proofs.Ytfndjciojljkfaa

namespace Go.Proofs.Ytfndjciojljkfaa
set_option linter.unusedSimpArgs false
open Go.ChangeShapes Go.WideShapes Go.ChangeAt Go.RowKit
set_option linter.unusedVariables false
abbrev ftB (F : Nat → Prop) : Ft := ⟨fun b _ => F b, F⟩
/-- a datum by its data -/
def RE {α : Type} (enc : α → List D) (ok : α → Prop) : RepT α := fun F w x cs => ok x ∧ RDL (ftB F) w (enc x) cs ∧ ∀ u ∈ cs, u.oneCell' = true
section
variable {α β : Type} {P : Program} {t e : TypeId} {sz : Nat} {enc : α → List D} {ok : α → Prop} {enc2 : β → List D} {ok2 : β → Prop} {F : Nat → Prop} {w : World}
theorem good_re (hl : ∀ x, (enc x).length = sz) : Good sz (RE enc ok) :=
  ⟨fun {F F' w w'} hF hk {x cs} h => ⟨h.1, RDL.mono (F := ftB F) (G := ftB F') ⟨fun b o hb => hF b hb, fun b hb => hF b hb⟩ (Kp.of_blocks (F := ftB F) (fun x o hx => hk x hx) (fun x hx => hk x hx)) _ _ h.2.1, h.2.2⟩,
   fun {F w x cs} h => by rw [RDL.len h.2.1, hl], fun {F w x cs} h => h.2.2⟩
theorem ore_int {k : IntKind} (hu : P.underlying t = some (.int k)) : Opens P t (RE (fun n : Int => [.c (.int k n)]) (fun n => (Lit.int k n).wf = true)) :=
  opens_map (f := fun n : Int => n) (opens_int hu) fun {F w x cs} h => ⟨h.2, by rw [h.1]; exact ⟨_, _, rfl, rfl, rfl⟩, by rw [h.1]; simp [Value.oneCell']⟩
theorem ore_bool (hu : P.underlying t = some .bool) : Opens P t (RE (fun b : Bool => [.c (.bool b)]) (fun _ => True)) :=
  opens_map (f := fun b : Bool => b) (opens_bool hu) fun {F w x cs} h => ⟨trivial, by rw [h]; exact ⟨_, _, rfl, rfl, rfl⟩, by rw [h]; simp [Value.oneCell']⟩
theorem ore_str (hu : P.underlying t = some .string) : Opens P t (RE (fun s : List UInt8 => [.c (.string ⟨s.toArray⟩)]) (fun s => s.length ≤ 140737488351232)) :=
  opens_map (f := fun s : List UInt8 => s) (opens_str hu) fun {F w x cs} h => ⟨h.2, by rw [h.1]; exact ⟨_, _, rfl, rfl, rfl⟩, by rw [h.1]; simp [Value.oneCell']⟩
theorem rep_re {p : α × β} {cs : List Value} (h : RP (RE enc ok) (RE enc2 ok2) F w p cs) : RE (fun p : α × β => enc p.1 ++ enc2 p.2) (fun p => ok p.1 ∧ ok2 p.2) F w p cs := by
  obtain ⟨c1, c2, rfl, h1, h2⟩ := h
  refine ⟨⟨h1.1, h2.1⟩, RDL.append h1.2.1 h2.2.1, fun u hu => ?_⟩
  rcases List.mem_append.1 hu with hu | hu
  · exact h1.2.2 u hu
  · exact h2.2.2 u hu
/-- a struct's fields from the one at offset o on, as data -/
def OpensE {γ : Type} (P : Program) (l : List Field) (o : Nat) (enc : γ → List D) (ok : γ → Prop) : Prop := OpensL P l o (RE enc ok)
theorem opensL_map {γ δ : Type} {l : List Field} {o : Nat} {T : RepT γ} {U : RepT δ} {f : γ → δ} (h : OpensL P l o T) (hm : ∀ {F w x cs}, T F w x cs → U F w (f x) cs) : OpensL P l o U := fun h1 h2 h3 h4 => by
  obtain ⟨y, hy⟩ := h h1 h2 h3 h4
  exact ⟨f y, hm hy⟩
theorem oreL_nil {o : Nat} : OpensL P [] o (RE (fun _ : Unit => []) (fun _ => True)) :=
  opensL_map (f := fun u : Unit => u) opensL_nil fun {F w x cs} h => ⟨trivial, h, by rw [h]; simp⟩
theorem oreL_cons {f : Field} {l : List Field} {o s1 : Nat} (hl1 : ∀ x, (enc x).length = s1) (ho : Opens P f.type (RE enc ok)) (hs : P.cellsOf f.type = s1) (hof : f.offset = o) (hall : ∀ f' ∈ l, o + s1 ≤ f'.offset) (hl : OpensL P l (o + s1) (RE enc2 ok2)) :
    OpensL P (f :: l) o (RE (fun p : α × β => enc p.1 ++ enc2 p.2) (fun p => ok p.1 ∧ ok2 p.2)) :=
  opensL_map (f := fun p : α × β => p) (opensL_cons (good_re hl1) ho hs hof hall hl) fun {F w x cs} h => rep_re h
/-- a field of one cell -/
theorem oreL_1 {f : Field} {l : List Field} {o : Nat} (ho : Opens P f.type (RE enc ok)) (hl1 : ∀ x, (enc x).length = 1) (hs : P.cellsOf f.type = 1) (hof : f.offset = o) (hall : ∀ f' ∈ l, o + 1 ≤ f'.offset) (hl : OpensL P l (o + 1) (RE enc2 ok2)) :
    OpensL P (f :: l) o (RE (fun p : α × β => enc p.1 ++ enc2 p.2) (fun p => ok p.1 ∧ ok2 p.2)) := oreL_cons hl1 ho hs hof hall hl
theorem ore_map {f : α → β} (h : Opens P t (RE enc ok)) (he : ∀ x, enc2 (f x) = enc x) (hok : ∀ x, ok x → ok2 (f x)) : Opens P t (RE enc2 ok2) :=
  opens_map (f := f) h fun {F w x cs} h => ⟨hok _ h.1, by rw [he]; exact h.2.1, h.2.2⟩
theorem rr_of {l : List α} {a : Option Addr} (hl : ∀ x, (enc x).length = sz) (h : RRow sz (RE enc ok) F w l a) : RR (ftB F) w sz a (l.map enc) 0 ∧ ∀ x ∈ l, ok x := by
  have key : ∀ (m : List α) (n : Nat), (∀ i (hi : i < m.length), ∃ b off cs, a = some ⟨b, off, none⟩ ∧ F b ∧ RE enc ok F w m[i] cs ∧ ∀ j u, cs[j]? = some u → w.cell? ⟨b, off + (n + i) * sz + j, none⟩ = some u) → RR (ftB F) w sz a (m.map enc) (n * sz) ∧ ∀ x ∈ m, ok x := by
    intro m
    induction m with
    | nil => intro n _; exact ⟨trivial, by simp⟩
    | cons x m ih =>
      intro n h
      obtain ⟨b, off, cs, h1, h2, h3, h4⟩ := h 0 (by simp)
      have h3' : RE enc ok F w x cs := h3
      obtain ⟨k1, k2⟩ := ih (n + 1) (fun i hi => by
        obtain ⟨b', off', cs', g1, g2, g3, g4⟩ := h (i + 1) (by simpa using hi)
        exact ⟨b', off', cs', g1, g2, g3, fun j u hj => by have := g4 j u hj; rw [show n + 1 + i = n + (i + 1) by omega]; exact this⟩)
      refine ⟨⟨⟨b, off, cs, h1, h3'.2.1, by rw [RDL.len h3'.2.1, hl], h3'.2.2, fun j u hj => ⟨h2, ?_⟩⟩, ?_⟩, ?_⟩
      · have := h4 j u hj
        simpa using this
      · rw [Nat.add_mul, Nat.one_mul] at k1
        exact k1
      · intro y hy
        rcases List.mem_cons.1 hy with rfl | hy
        · exact h3'.1
        · exact k2 y hy
  have := key l 0 (fun i hi => by
    obtain ⟨b, off, cs, h1, h2, h3, h4⟩ := h i hi
    exact ⟨b, off, cs, h1, h2, h3, fun j u hj => by rw [Nat.zero_add]; exact h4 j u hj⟩)
  simpa using this
theorem ore_slice (d0 : List D) (hl : ∀ x, (enc x).length = sz) (ho : Opens P e (RE enc ok)) (hu : P.underlying t = some (.slice e)) (hc : P.cellsOf e = sz) (hpos : 0 < sz) (hb : 1 ≤ P.bytesOf e) :
    Opens P t (RE (fun l : List α => [.sl sz d0 (l.map enc)]) (fun l => l.length ≤ 140737488351232 ∧ ∀ x ∈ l, ok x)) :=
  opens_map (f := fun l : List α => l) (opens_slice (good_re hl) ho hu hc hpos hb) fun {F w x cs} h => by
    obtain ⟨a, cap, rfl, h1, h2, h3⟩ := h
    obtain ⟨k1, k2⟩ := rr_of hl h3
    refine ⟨⟨h2, k2⟩, ⟨_, _, rfl, ⟨a, cap, by rw [List.length_map], by simpa using h1, by simpa using h2, k1⟩, rfl⟩, by simp [Value.oneCell']⟩
theorem rdl_cells {n : Nat} : ∀ {l : List α} {cs : List Value}, CellsL (RE enc ok) F w l cs → RE (fun l : List α => (l.map enc).flatten) (fun l => ∀ x ∈ l, ok x) F w l cs
  | [], cs, h => by cases h; exact ⟨by simp, rfl, by simp⟩
  | x :: l, cs, h => by
    obtain ⟨c, ys, rfl, h1, h2⟩ := h
    obtain ⟨k1, k2, k3⟩ := rdl_cells (n := n) h2
    refine ⟨fun y hy => ?_, ?_, fun u hu => ?_⟩
    · rcases List.mem_cons.1 hy with rfl | hy
      · exact h1.1
      · exact k1 y hy
    · show RDL _ _ (enc x ++ (l.map enc).flatten) _
      exact RDL.append h1.2.1 k2
    · rcases List.mem_append.1 hu with hu | hu
      · exact h1.2.2 u hu
      · exact k3 u hu
theorem ore_array {n : Nat} (ho : Opens P e (RE enc ok)) (hu : P.underlying t = some (.array n e)) (hc : P.cellsOf e = sz) (hpos : 0 < sz) (ht : P.cellsOf t = n * sz) :
    Opens P t (RE (fun l : List α => (l.map enc).flatten) (fun l => l.length = n ∧ ∀ x ∈ l, ok x)) :=
  opens_map (f := fun l : List α => l) (opens_array ho hu hc hpos ht) fun {F w x cs} h => by
    obtain ⟨k1, k2, k3⟩ := rdl_cells (n := n) h.2
    exact ⟨⟨h.1, k1⟩, k2, k3⟩
/-- as a law's arguments -/
abbrev ftN (w : World) : Ft := ftB (Now w)
theorem ftN_lt (w : World) : (ftN w).lt w := ⟨fun _ _ h => h, fun _ h => h⟩
variable {H : Type} {en : TypeId × Value → H} {W : World} {base : Nat} {v : Value} {d : DataW H} {ps : List MemPlace}
theorem arg_int {k : IntKind} (hu : P.underlying t = some (.int k)) (hok : Value.okWide P W .any base t v) (h : DataW.Trod en P W 0 (fun _ => true) true t v d ps) : ∃ n : Int, (Lit.int k n).wf = true ∧ RA (ftN W) W (.one (.c (.int k n))) v := by
  obtain ⟨z, rfl, rfl, rfl, wz⟩ := open_int hu hok h
  exact ⟨z, wz, rfl⟩
theorem arg_bool (hu : P.underlying t = some .bool) (hok : Value.okWide P W .any base t v) (h : DataW.Trod en P W 0 (fun _ => true) true t v d ps) : ∃ b : Bool, RA (ftN W) W (.one (.c (.bool b))) v := by
  obtain ⟨z, rfl, rfl, rfl⟩ := open_bool hu hok h
  exact ⟨z, rfl⟩
theorem arg_row {dd0 : List D} {ok' : List α → Prop} (ho : Opens P t (RE (fun l : List α => [.sl sz dd0 (l.map enc)]) ok')) (hu : P.underlying t = some (.slice e)) (hok : Value.okWide P W .any base t v) (h : DataW.Trod en P W 0 (fun _ => true) true t v d ps) (hw : ∀ k ∈ d.weights P t, k ≤ reachBytes) :
    ∃ l, ok' l ∧ RA (ftN W) W (.one (.sl sz dd0 (l.map enc))) v := by
  obtain ⟨a0, len, cp, rfl⟩ := okWide_slice hu hok
  obtain ⟨fuel, hf⟩ := h
  obtain ⟨l, h1, h2, h3⟩ := ho hf hw
  obtain ⟨u, r, e1, h4, h5⟩ := h2
  simp [Value.cells] at e1
  exact ⟨l, h1, by rw [e1.1]; exact h4⟩
theorem arg_struct {fs : Array Field} (ho : Opens P t (RE enc ok)) (hu : P.underlying t = some (.struct fs)) (hok : Value.okWide P W .any base t v) (h : DataW.Trod en P W 0 (fun _ => true) true t v d ps) (hw : ∀ k ∈ d.weights P t, k ≤ reachBytes) :
    ∃ x, ok x ∧ RA (ftN W) W (.agg (enc x)) v := by
  obtain ⟨x, cs, rfl, h1, h2, h3⟩ := open_struct ho hu hok h hw
  exact ⟨x, h1, cs.toList, by simp, h2, h3⟩
end
end Go.Proofs.Ytfndjciojljkfaa

namespace Go.Proofs.Ytfndjciojljkfaa
set_option linter.unusedSimpArgs false
set_option linter.unusedVariables false
open Go.ChangeShapes Go.WideShapes Go.ChangeAt Go.RowKit
def OkI (l : List Int) : Prop := l.length ≤ 140737488351232 ∧ ∀ x ∈ l, -9223372036854775808 ≤ x ∧ x ≤ 9223372036854775807
theorem wf_int64 {n : Int} (h : (Lit.int .i64 n).wf = true) : -9223372036854775808 ≤ n ∧ n ≤ 9223372036854775807 := by
  exact wf_i64 h
theorem opens_int1 : Opens Try.prog 3 (RE intD (fun n => -9223372036854775808 ≤ n ∧ n ≤ 9223372036854775807)) :=
  ore_map (f := fun n : Int => n) (ore_int Try.underlying3) (by intro x; rfl) (fun x h => wf_int64 h)
theorem opens_ints : Opens Try.prog 27 (RE (fun l : List Int => [.sl 1 (intD 0) (l.map intD)]) OkI) :=
  ore_slice (sz := 1) (intD 0) (by intro x; rfl) opens_int1 Try.underlying27 (by kernel_rfl) (by decide) (Nat.le_of_ble_eq_true (by kernel_rfl))
theorem opens_intss : Opens Try.prog 33 (RE (fun l : List (List Int) => [.sl 1 [.sl 1 (intD 0) []] (l.map fun x => [.sl 1 (intD 0) (x.map intD)])]) (fun l => l.length ≤ 140737488351232 ∧ ∀ x ∈ l, OkI x)) :=
  ore_slice (sz := 1) [.sl 1 (intD 0) []] (by intro x; rfl) opens_ints Try.underlying33 (by kernel_rfl) (by decide) (Nat.le_of_ble_eq_true (by kernel_rfl))
theorem opens_lot : Opens Try.prog 43 (RE lotD OkL) :=
  ore_map (f := fun x : List Int × Bool × List Int × Unit => (⟨x.1, x.2.1, x.2.2.1⟩ : LotP))
    (opens_struct Try.underlying43 (by kernel_rfl)
      (oreL_1 opens_ints (by intro x; rfl) (by kernel_rfl) rfl (by simp) (oreL_1 (ore_bool Try.underlying4) (by intro x; rfl) (by kernel_rfl) rfl (by simp)
      (oreL_1 opens_ints (by intro x; rfl) (by kernel_rfl) rfl (by simp) oreL_nil))))
    (by intro x; rfl) (by rintro x ⟨h1, h2, h3, _⟩; exact ⟨h1.2, h3.2, h1.1, h3.1⟩)
theorem opens_lots : Opens Try.prog 22 (RE (fun l : List LotP => [.sl 3 (lotD default) (l.map lotD)]) (fun l => l.length ≤ 140737488351232 ∧ ∀ x ∈ l, OkL x)) :=
  ore_slice (sz := 3) (lotD default) (by intro x; rfl) opens_lot Try.underlying22 (by kernel_rfl) (by decide) (Nat.le_of_ble_eq_true (by kernel_rfl))
theorem opens_flow : Opens Try.prog 24 (RE flowD OkF) :=
  ore_map (f := fun x : Int × List LotP × Unit => (⟨x.1, x.2.1⟩ : FlowP))
    (opens_struct Try.underlying24 (by kernel_rfl)
      (oreL_1 (ore_int Try.underlying3) (by intro x; rfl) (by kernel_rfl) rfl (by simp) (oreL_1 opens_lots (by intro x; rfl) (by kernel_rfl) rfl (by simp) oreL_nil)))
    (by intro x; rfl) (by rintro x ⟨h1, h2, _⟩; exact ⟨wf_int64 h1, h2.1, h2.2⟩)
end Go.Proofs.Ytfndjciojljkfaa

namespace Go.Proofs.Ytfndjciojljkfaa
set_option linter.unusedSimpArgs false
set_option linter.unusedVariables false
open Go.RowKit
set_option maxRecDepth 100000
set_option maxHeartbeats 4000000
theorem endsR_len (f : FlowP) : (endsR f).length ≤ 50000 := by
  unfold endsR
  split
  · rename_i hc
    have z := checkF_zero hc
    have h := endAt_len f (befF f f.lots.length).toNat
    have : endsF f = endAt f (befF f f.lots.length).toNat := rfl
    rw [this]
    omega
  · simp
theorem mapR_len (f : FlowP) : (mapR f).length ≤ 64 := by
  unfold mapR
  split
  · rename_i he
    have hc : checkF f = 0 := by
      unfold errM at he
      split at he
      · rename_i h; exact absurd he h
      · rename_i h; simpa using h
    have z := checkF_zero hc
    rw [mapAt_len]
    omega
  · simp
theorem okF_view {f : FlowP} (hf : OkF f) (lines : List (List Int)) (coal : List Int) : OkF (viewR f lines coal) := by
  unfold viewR
  split
  · refine ⟨hf.s, by rw [viewAt_len]; exact hf.l, fun x hx => ?_⟩
    unfold viewAt at hx
    obtain ⟨k, _, rfl⟩ := List.mem_map.1 hx
    unfold viewL
    split
    · exact hf.at k
    · exact ⟨(hf.at k).inn, by simp, (hf.at k).li, by simp⟩
  · exact okF_b (by decide)
theorem flaw1_spec (f : FlowP) (hf : OkF f) : Spec Try.prog 3 [.agg (flowD f)] (.r1 (aB true)) := by
  refine spec_of T_ok Try.func3 (by dsimp only [Try.f3]) rfl rfl (by simp) fun w F => ?_
  have hl := endsR_len f
  repeat' (first
    | (with_reducible refine aw_seq ?_)
    | ((with_reducible refine twoG_intro ?_ ?_) <;> intro hTw <;> first | (exact Bool.noConfusion hTw) | ((try simp only [hTw, Bool.not_true, Bool.not_false, Bool.true_and, Bool.false_and, Bool.and_true, Bool.and_false, Bool.true_or, Bool.false_or, Bool.or_true, Bool.or_false]); (first | (guard_hyp hTw : true = true; clear hTw) | (guard_hyp hTw : false = false; clear hTw) | (revert hTw; intro _))))
    | ((with_reducible refine two_intro ?_ ?_) <;> intro hTw <;> first | (exact Bool.noConfusion hTw) | ((first | (guard_hyp hTw : true = true; clear hTw) | (guard_hyp hTw : false = false; clear hTw) | (revert hTw; intro _))))
    | ((with_reducible refine And.intro ?_ ?_); (focus (first | omega | rfl | decide | grind)))
    | (with_reducible refine aw_block ?_)
    | (with_reducible refine aw_scope ?_)
    | ((first
        | ((with_reducible refine aw_regionA T_ok ?_ ?_); (focus kernel_rfl))
        | ((with_reducible refine aw_drawnA T_ok ?_ ?_ ?_ ?_); (focus kernel_rfl); (focus kernel_rfl); (focus (decide +kernel)))
        | ((with_reducible refine aw_drawnF T_ok ?_ ?_ ?_ ?_); (focus kernel_rfl); (focus kernel_rfl); (focus (decide +kernel)))
        | ((with_reducible refine callK_intro (fsane_spec) (by with_unfolding_all rfl) ?_ ?_); (focus kernel_rfl))
        | ((with_reducible refine callI_spec (fsane_spec) (by with_unfolding_all rfl) ?_ ?_ ?_); (focus kernel_rfl); (focus kernel_rfl))
        | ((with_reducible refine callK_intro (ffew_spec f hf.l) (by with_unfolding_all rfl) ?_ ?_); (focus kernel_rfl))
        | ((with_reducible refine callI_spec (ffew_spec f hf.l) (by with_unfolding_all rfl) ?_ ?_ ?_); (focus kernel_rfl); (focus kernel_rfl))
        | ((with_reducible refine callK_intro (fends_spec f hf) (by with_unfolding_all rfl) ?_ ?_); (focus kernel_rfl))
        | ((with_reducible refine callI_spec (fends_spec f hf) (by with_unfolding_all rfl) ?_ ?_ ?_); (focus kernel_rfl); (focus kernel_rfl))
        | ((with_reducible refine callK_intro (qfends_spec f hf) (by with_unfolding_all rfl) ?_ ?_); (focus kernel_rfl))
        | ((with_reducible refine callI_spec (qfends_spec f hf) (by with_unfolding_all rfl) ?_ ?_ ?_); (focus kernel_rfl); (focus kernel_rfl))
        | ((with_reducible refine callK_intro (fcheck_spec f hf) (by with_unfolding_all rfl) ?_ ?_); (focus kernel_rfl))
        | ((with_reducible refine callI_spec (fcheck_spec f hf) (by with_unfolding_all rfl) ?_ ?_ ?_); (focus kernel_rfl); (focus kernel_rfl))
        | ((with_reducible refine callK_intro (qfcheck_spec f hf) (by with_unfolding_all rfl) ?_ ?_); (focus kernel_rfl))
        | ((with_reducible refine callI_spec (qfcheck_spec f hf) (by with_unfolding_all rfl) ?_ ?_ ?_); (focus kernel_rfl); (focus kernel_rfl))
        | ((with_reducible refine callK_intro (sameInts_spec (endsR f) (endsR f) (by omega)) (by with_unfolding_all rfl) ?_ ?_); (focus kernel_rfl))
        | ((with_reducible refine callI_spec (sameInts_spec (endsR f) (endsR f) (by omega)) (by with_unfolding_all rfl) ?_ ?_ ?_); (focus kernel_rfl); (focus kernel_rfl))
        | (with_reducible refine aw_label ?_)
        | ((with_reducible refine aw_rfM ?_ ?_); (focus kernel_rfl))
        | (with_reducible refine aw_skip ?_)
        | (with_reducible refine aw_exit ?_)
        | ((with_reducible refine aw_condM ?_ ?_); (focus kernel_rfl))
        | (with_reducible refine aw_ret ?_)
      ); simp only [↓avP, avQ, if_true, if_false, forall_const, beq_self_eq_true, eq_self, ne_eq, implies_true, reduceIte, Nat.reduceEqDiff, Nat.reduceAdd, Nat.reduceSub, Int.reduceToNat, Nat.reduceLeDiff, Nat.reduceLT, reduceCtorEq, Int.reduceEq, retQ, retL, resV, RetV, RetOk, SubL, intD_B, lotD_B, flowD_B, snocI, snocL, ty_3, ty_27, ty_4, ty_24, ty_43, ty_22, ty_33]; try simp (disch := omega) only [av_w, av_t1, av_tp, Int.toNat_natCast]))
  all_goals first | exact Sub.refl _ | exact Sub.of_eq (congrArg aB (by simp))
theorem flaw2_spec (f : FlowP) (lines : List (List Int)) (coal : List Int) (hf : OkF f) (hl : lines.length ≤ 140737488351232 ∧ ∀ x ∈ lines, OkI x) (hc : OkI coal) : Spec Try.prog 4 [.agg (flowD f), aIss lines, aIs coal] (.r1 (aB true)) := by
  refine spec_of T_ok Try.func4 (by dsimp only [Try.f4]) rfl rfl (by simp) fun w F => ?_
  have hm := mapR_len f
  have hv := okF_view hf lines coal
  have hx : ∀ x ∈ lines, x.length ≤ 140737488351232 := fun x hx => (hl.2 x hx).1
  obtain ⟨hc1, hc2⟩ := hc
  obtain ⟨hl1, hl2⟩ := hl
  have sf := ffew2_spec lines coal hl1 hc1
  have sv := fview_spec f lines coal hf hl1 hl2 hc1 hc2
  have sq := qfview_spec f lines coal hf hl1 hx hc1
  repeat' (first
    | (with_reducible refine aw_seq ?_)
    | ((with_reducible refine twoG_intro ?_ ?_) <;> intro hTw <;> first | (exact Bool.noConfusion hTw) | ((try simp only [hTw, Bool.not_true, Bool.not_false, Bool.true_and, Bool.false_and, Bool.and_true, Bool.and_false, Bool.true_or, Bool.false_or, Bool.or_true, Bool.or_false]); (first | (guard_hyp hTw : true = true; clear hTw) | (guard_hyp hTw : false = false; clear hTw) | (revert hTw; intro _))))
    | ((with_reducible refine two_intro ?_ ?_) <;> intro hTw <;> first | (exact Bool.noConfusion hTw) | ((first | (guard_hyp hTw : true = true; clear hTw) | (guard_hyp hTw : false = false; clear hTw) | (revert hTw; intro _))))
    | ((with_reducible refine And.intro ?_ ?_); (focus (first | omega | rfl | decide | grind)))
    | (with_reducible refine aw_block ?_)
    | (with_reducible refine aw_scope ?_)
    | ((first
        | ((with_reducible refine aw_regionA T_ok ?_ ?_); (focus kernel_rfl))
        | ((with_reducible refine aw_drawnA T_ok ?_ ?_ ?_ ?_); (focus kernel_rfl); (focus kernel_rfl); (focus (decide +kernel)))
        | ((with_reducible refine aw_drawnF T_ok ?_ ?_ ?_ ?_); (focus kernel_rfl); (focus kernel_rfl); (focus (decide +kernel)))
        | ((with_reducible refine callK_intro (fsane_spec) (by with_unfolding_all rfl) ?_ ?_); (focus kernel_rfl))
        | ((with_reducible refine callI_spec (fsane_spec) (by with_unfolding_all rfl) ?_ ?_ ?_); (focus kernel_rfl); (focus kernel_rfl))
        | ((with_reducible refine callK_intro (ffew_spec f hf.l) (by with_unfolding_all rfl) ?_ ?_); (focus kernel_rfl))
        | ((with_reducible refine callI_spec (ffew_spec f hf.l) (by with_unfolding_all rfl) ?_ ?_ ?_); (focus kernel_rfl); (focus kernel_rfl))
        | ((with_reducible refine callK_intro (sf) (by with_unfolding_all rfl) ?_ ?_); (focus kernel_rfl))
        | ((with_reducible refine callI_spec (sf) (by with_unfolding_all rfl) ?_ ?_ ?_); (focus kernel_rfl); (focus kernel_rfl))
        | ((with_reducible refine callK_intro (fmap_spec f hf) (by with_unfolding_all rfl) ?_ ?_); (focus kernel_rfl))
        | ((with_reducible refine callI_spec (fmap_spec f hf) (by with_unfolding_all rfl) ?_ ?_ ?_); (focus kernel_rfl); (focus kernel_rfl))
        | ((with_reducible refine callK_intro (qfmap_spec f hf) (by with_unfolding_all rfl) ?_ ?_); (focus kernel_rfl))
        | ((with_reducible refine callI_spec (qfmap_spec f hf) (by with_unfolding_all rfl) ?_ ?_ ?_); (focus kernel_rfl); (focus kernel_rfl))
        | ((with_reducible refine callK_intro (sv) (by with_unfolding_all rfl) ?_ ?_); (focus kernel_rfl))
        | ((with_reducible refine callI_spec (sv) (by with_unfolding_all rfl) ?_ ?_ ?_); (focus kernel_rfl); (focus kernel_rfl))
        | ((with_reducible refine callK_intro (sq) (by with_unfolding_all rfl) ?_ ?_); (focus kernel_rfl))
        | ((with_reducible refine callI_spec (sq) (by with_unfolding_all rfl) ?_ ?_ ?_); (focus kernel_rfl); (focus kernel_rfl))
        | ((with_reducible refine callK_intro (sameInts_spec (mapR f) (mapR f) (by omega)) (by with_unfolding_all rfl) ?_ ?_); (focus kernel_rfl))
        | ((with_reducible refine callI_spec (sameInts_spec (mapR f) (mapR f) (by omega)) (by with_unfolding_all rfl) ?_ ?_ ?_); (focus kernel_rfl); (focus kernel_rfl))
        | ((with_reducible refine callK_intro (qfsame_spec (viewR f lines coal) (viewR f lines coal) hv hv) (by with_unfolding_all rfl) ?_ ?_); (focus kernel_rfl))
        | ((with_reducible refine callI_spec (qfsame_spec (viewR f lines coal) (viewR f lines coal) hv hv) (by with_unfolding_all rfl) ?_ ?_ ?_); (focus kernel_rfl); (focus kernel_rfl))
        | (with_reducible refine aw_label ?_)
        | ((with_reducible refine aw_rfM ?_ ?_); (focus kernel_rfl))
        | (with_reducible refine aw_skip ?_)
        | (with_reducible refine aw_exit ?_)
        | ((with_reducible refine aw_condM ?_ ?_); (focus kernel_rfl))
        | (with_reducible refine aw_ret ?_)
      ); simp only [↓avP, avQ, if_true, if_false, forall_const, beq_self_eq_true, eq_self, ne_eq, implies_true, reduceIte, Nat.reduceEqDiff, Nat.reduceAdd, Nat.reduceSub, Int.reduceToNat, Nat.reduceLeDiff, Nat.reduceLT, reduceCtorEq, Int.reduceEq, retQ, retL, resV, RetV, RetOk, SubL, intD_B, lotD_B, flowD_B, snocI, snocL, ty_3, ty_27, ty_4, ty_24, ty_43, ty_22, ty_33]; try simp (disch := omega) only [av_w, av_t1, av_tp, Int.toNat_natCast]))
  all_goals first | with_reducible exact Sub.refl _ | (refine Sub.of_eq (congrArg aB ?_); simp; done) | trace_state
end Go.Proofs.Ytfndjciojljkfaa

namespace Go.Proofs.Ytfndjciojljkfaa
set_option linter.unusedSimpArgs false
set_option linter.unusedVariables false
theorem Try.own : ownKnob Try.prog.godebug = none := by kernel_rfl
theorem Try.laidOut : laidOutB Try.prog = true := by kernel_rfl
end Go.Proofs.Ytfndjciojljkfaa

namespace Go.Proofs.Ytfndjciojljkfaa
set_option linter.unusedSimpArgs false
set_option linter.unusedVariables false
open Go.RowKit
theorem gone_nd {f : FlowP} (hc : checkF f = 0) : ∀ {k : Nat}, k ≤ f.lots.length → (goneF f k).Nodup
  | 0, _ => by simp [goneF]
  | k + 1, hk => by
    rw [goneF_succ (by omega), List.nodup_append]
    have hg := goodL_at hc (show k < f.lots.length by omega)
    exact ⟨gone_nd hc (by omega), hg.nd, fun a ha b hb e => (hg.fr b hb).2.2 (e ▸ ha)⟩
theorem gone_len {f : FlowP} : ∀ {k : Nat}, k ≤ f.lots.length → ((goneF f k).length : Int) = befF f k - f.senders
  | 0, _ => by simp [goneF, befF]
  | k + 1, hk => by
    rw [goneF_succ (by omega), befF_succ (by omega), List.length_append]
    have := gone_len (f := f) (k := k) (by omega)
    omega
theorem filter_len {α : Type} (p : α → Bool) : ∀ l : List α, (l.filter p).length + (l.filter fun x => !p x).length = l.length
  | [] => rfl
  | x :: l => by
    have := filter_len p l
    rw [List.filter_cons, List.filter_cons]
    cases p x <;> simp <;> omega
/-- the numbers below N that are not in a list -/
theorem rest_len (N : Nat) (G : List Int) (hn : G.Nodup) (hb : ∀ t ∈ G, 0 ≤ t ∧ t < (N : Int)) : (((List.range N).map fun n : Nat => (n : Int)).filter fun s => !decide (s ∈ G)).length + G.length = N := by
  have h1 := filter_len (fun s : Int => decide (s ∈ G)) ((List.range N).map fun n : Nat => (n : Int))
  rw [List.length_map, List.length_range] at h1
  have hnd : (((List.range N).map fun n : Nat => (n : Int)).filter fun s => decide (s ∈ G)).Nodup :=
    List.Nodup.sublist List.filter_sublist (List.pairwise_map.2 (List.Pairwise.imp (fun {a b} h e => h (by omega)) (List.nodup_range (n := N))))
  have h2 := hnd.length_le_of_subset (l₂ := G) (fun x hx => by simpa using (List.mem_filter.1 hx).2)
  have h3 := hn.length_le_of_subset (l₂ := ((List.range N).map fun n : Nat => (n : Int)).filter fun s => decide (s ∈ G)) (fun x hx => by
    have := hb x hx
    refine List.mem_filter.2 ⟨List.mem_map.2 ⟨x.toNat, List.mem_range.2 (by omega), by omega⟩, by simpa using hx⟩)
  omega
theorem endsF_len {f : FlowP} (hc : checkF f = 0) : ((endsF f).length : Int) = f.senders := by
  have z := checkF_zero hc
  have hb := befF_mono (f := f) (Nat.le_refl f.lots.length)
  have hl := gone_len (f := f) (Nat.le_refl f.lots.length)
  have := rest_len (befF f f.lots.length).toNat (goneF f f.lots.length) (gone_nd hc (Nat.le_refl _)) (fun t ht => by have := gone_lt hc (Nat.le_refl _) t ht; omega)
  unfold endsF
  omega
theorem endsF_lt (f : FlowP) : (endsF f).Pairwise (· < ·) := by
  unfold endsF
  refine List.Pairwise.sublist List.filter_sublist (List.pairwise_map.2 ?_)
  exact List.Pairwise.imp (fun {a b} h => by omega) (List.pairwise_lt_range (n := _))
theorem endsF_at {f : FlowP} {k : Nat} (h0 : k ≠ 0) (h : k < (endsF f).length) : (endsF f).getD (k - 1) 0 < (endsF f).getD k 0 := by
  have := endsF_lt f
  rw [List.pairwise_iff_getElem] at this
  have h1 := this (k - 1) k (by omega) h (by omega)
  rw [List.getD, List.getD, List.getElem?_eq_getElem h, List.getElem?_eq_getElem (show k - 1 < (endsF f).length by omega)]
  exact h1
theorem mem_endsF {f : FlowP} {t : Int} : t ∈ endsF f ↔ 0 ≤ t ∧ t < befF f f.lots.length ∧ t ∉ goneF f f.lots.length := by
  unfold endsF
  rw [List.mem_filter, List.mem_map]
  simp only [List.mem_range, Bool.not_eq_true', decide_eq_false_iff_not]
  exact ⟨fun ⟨⟨n, h1, h2⟩, h3⟩ => ⟨by omega, by omega, h3⟩, fun ⟨h1, h2, h3⟩ => ⟨⟨t.toNat, by omega, by omega⟩, h3⟩⟩
theorem mapAt_nd {f : FlowP} (hc : checkF f = 0) (hk : knownF f = true) {N : Nat} (hN : f.senders = N) : (mapAt f N).Nodup := by
  unfold mapAt
  rw [List.nodup_iff_pairwise_ne, List.pairwise_map]
  have hlt : ∀ a ∈ List.range N, a < N := fun a ha => by simpa using ha
  refine (List.pairwise_iff_getElem.2 fun i j hi hj hij e => ?_)
  have := follow_inj hc hk (s := (List.range N)[i]) (s' := (List.range N)[j]) (by have := hlt _ (List.getElem_mem hi); omega) (by have := hlt _ (List.getElem_mem hj); omega) (Nat.le_refl _) e
  simp at this
  omega
theorem mapAt_in {f : FlowP} (hc : checkF f = 0) (hk : knownF f = true) {N : Nat} (hN : f.senders = N) {t : Int} (ht : t ∈ mapAt f N) : t ∈ endsF f := by
  unfold mapAt at ht
  obtain ⟨s, hs, rfl⟩ := List.mem_map.1 ht
  have := follow_in hc hk s (by have := List.mem_range.1 hs; omega) (Nat.le_refl f.lots.length)
  exact mem_endsF.2 ⟨this.1, this.2.1, this.2.2⟩
/-- what is left of a set -/
structure MetInv (E : List Int) (D : List Int) (M : AM Bool) : Prop where
  nd : (M.map (·.1)).Nodup
  lk : ∀ t, t ∈ E → t ∉ D → lkA [t] M = some true
  len : M.length + D.length = E.length
theorem lkA_dlA {α : Type} {c d : List Int} (h : c ≠ d) : ∀ M : AM α, lkA c (dlA d M) = lkA c M
  | [] => rfl
  | (u, x) :: M => by
    rw [dlA]
    split
    · rename_i e; rw [lkA, if_neg (fun e' => h (e'.trans e.symm))]
    · rw [lkA, lkA, lkA_dlA h M]
theorem dlA_len {α : Type} {c : List Int} : ∀ {M : AM α}, lkA c M ≠ none → (dlA c M).length + 1 = M.length
  | [], h => (h rfl).elim
  | (u, x) :: M, h => by
    rw [dlA]
    split
    · rfl
    · rename_i e
      rw [lkA, if_neg e] at h
      simp only [List.length_cons, dlA_len h]
theorem dlA_sub {α : Type} (c : List Int) : ∀ M : AM α, ((dlA c M).map (·.1)).Sublist (M.map (·.1))
  | [] => List.Sublist.refl _
  | (u, x) :: M => by
    rw [dlA]
    split
    · exact List.sublist_cons_self _ _
    · exact (dlA_sub c M).cons_cons _
theorem MetInv.del {E D : List Int} {M : AM Bool} (h : MetInv E D M) {t : Int} (hE : t ∈ E) (hD : t ∉ D) : MetInv E (D ++ [t]) (dlA [t] M) := by
  refine ⟨h.nd.sublist (dlA_sub _ _), fun u hu hn => ?_, ?_⟩
  · rw [List.mem_append, List.mem_singleton, not_or] at hn
    rw [lkA_dlA (fun e => hn.2 (by simpa using e)), h.lk u hu hn.1]
  · have := dlA_len (c := [t]) (M := M) (by rw [h.lk t hE hD]; simp)
    have := h.len
    rw [List.length_append, List.length_singleton]
    omega
theorem upA_new {α : Type} {c : List Int} {v : α} : ∀ {M : AM α}, c ∉ M.map (·.1) → upA c v M = M ++ [(c, v)]
  | [], _ => rfl
  | (u, x) :: M, h => by
    simp only [List.map_cons, List.mem_cons, not_or] at h
    rw [upA, if_neg h.1, upA_new h.2, List.cons_append]
theorem metM_nd (l : List Int) : l.Nodup → metM l = l.map fun t => ([t], true) := by
  refine list_snoc (motive := fun l => l.Nodup → metM l = l.map fun t => ([t], true)) (fun _ => rfl) (fun l y ih h => ?_) l
  rw [List.nodup_append] at h
  rw [metM_succ, ih h.1, upA_new (fun hm => ?_), List.map_append]
  · rfl
  · rw [List.map_map] at hm
    obtain ⟨t, ht, e⟩ := List.mem_map.1 hm
    have : t = y := by simpa using e
    exact h.2.2 t ht y (by simp) this
theorem metInv_zero {E : List Int} (hE : E.Nodup) : MetInv E [] (metM E) := by
  refine ⟨?_, fun t ht _ => by rw [lkA_metM, if_pos ht], ?_⟩
  · rw [metM_nd E hE, List.map_map]
    exact List.pairwise_map.2 (List.Pairwise.imp (fun {a b} h e => h (by simpa using e)) hE)
  · rw [metM_nd E hE]; simp
theorem endsF_nd (f : FlowP) : (endsF f).Nodup := List.Pairwise.imp (fun {a b} h => by omega) (endsF_lt f)
end Go.Proofs.Ytfndjciojljkfaa

namespace Go.Proofs.Ytfndjciojljkfaa
set_option linter.unusedSimpArgs false
set_option linter.unusedVariables false
open Go.RowKit
theorem dlM_bool (c : List Int) (m : AM Bool) : dlM c (mpV boolV m) = mpV boolV (dlA c m) := dlM_mpV boolV c m
theorem mpV_len (f : Bool → V) : ∀ m : AM Bool, (mpV f m).length = m.length
  | [] => rfl
  | (_, _) :: m => by rw [mpV, List.length_cons, List.length_cons, mpV_len f m]
set_option maxRecDepth 100000
set_option maxHeartbeats 4000000
theorem flaw3_spec (f : FlowP) (hf : OkF f) : Spec Try.prog 5 [.agg (flowD f)] (.r1 (aB true)) := by
  refine spec_of T_ok Try.func5 (by dsimp only [Try.f5]) rfl rfl (by simp) fun w F => ?_
  have hFw := ffew_spec f hf.l
  have hE := fends_spec f hf
  have hC := fcheck_spec f hf
  have hM := fmap_spec f hf
  have hK := qknown_spec f hf.l
  rw [show ((List.range f.lots.length).all fun k => !(!(f.lots.getD k default).known)) = knownF f from rfl] at hK
  cases hfw : fewF f with
  | false =>
    repeat' (first
      | (with_reducible refine aw_seq ?_)
      | ((with_reducible refine twoG_intro ?_ ?_) <;> intro hTw <;> first | (exact Bool.noConfusion hTw) | ((try simp only [hTw, Bool.not_true, Bool.not_false, Bool.true_and, Bool.false_and, Bool.and_true, Bool.and_false, Bool.true_or, Bool.false_or, Bool.or_true, Bool.or_false]); (first | (guard_hyp hTw : true = true; clear hTw) | (guard_hyp hTw : false = false; clear hTw) | (revert hTw; intro _))))
      | ((with_reducible refine two_intro ?_ ?_) <;> intro hTw <;> first | (exact Bool.noConfusion hTw) | ((first | (guard_hyp hTw : true = true; clear hTw) | (guard_hyp hTw : false = false; clear hTw) | (revert hTw; intro _))))
      | ((with_reducible refine And.intro ?_ ?_); (focus (first | exact keyOk_int_ | omega | rfl | decide | grind)))
      | (with_reducible refine aw_block ?_)
      | (with_reducible refine aw_scope ?_)
      | ((first
          | ((with_reducible refine aw_regionA T_ok ?_ ?_); (focus kernel_rfl))
          | ((with_reducible refine aw_drawnA T_ok ?_ ?_ ?_ ?_); (focus kernel_rfl); (focus kernel_rfl); (focus (decide +kernel)))
          | ((with_reducible refine aw_drawnF T_ok ?_ ?_ ?_ ?_); (focus kernel_rfl); (focus kernel_rfl); (focus (decide +kernel)))
          | ((with_reducible refine callK_intro (fsane_spec) (by with_unfolding_all rfl) ?_ ?_); (focus kernel_rfl))
          | ((with_reducible refine callI_spec (fsane_spec) (by with_unfolding_all rfl) ?_ ?_ ?_); (focus kernel_rfl); (focus kernel_rfl))
          | ((with_reducible refine callK_intro (hFw) (by with_unfolding_all rfl) ?_ ?_); (focus kernel_rfl))
          | ((with_reducible refine callI_spec (hFw) (by with_unfolding_all rfl) ?_ ?_ ?_); (focus kernel_rfl); (focus kernel_rfl))
          | (with_reducible refine aw_label ?_)
          | ((with_reducible refine aw_rfM ?_ ?_); (focus kernel_rfl))
          | (with_reducible refine aw_skip ?_)
          | (with_reducible refine aw_exit ?_)
          | ((with_reducible refine aw_condM ?_ ?_); (focus kernel_rfl))
          | (with_reducible refine aw_ret ?_)
        ); simp only [↓avP, avQ, if_true, if_false, forall_const, beq_self_eq_true, eq_self, ne_eq, implies_true, reduceIte, Nat.reduceEqDiff, Nat.reduceAdd, Nat.reduceSub, Int.reduceToNat, Nat.reduceLeDiff, Nat.reduceLT, reduceCtorEq, Int.reduceEq, retQ, retL, resV, RetV, RetOk, SubL, intD_B, lotD_B, flowD_B, snocI, snocL, ty_3, ty_27, ty_4, ty_24, ty_43, ty_22, ty_33, ty_39, lkM_bool, upM_bool, dlM_bool, boolV, boolV_getD, mpV_len, hfw]; try simp (disch := omega) only [av_w, av_t1, av_tp, Int.toNat_natCast]))
    exact Sub.refl _
  | true =>
    by_cases hc : checkF f = 0
    rotate_left
    · have hd : (checkF f != 0) = true := by simpa using hc
      have he : endsR f = [] := by rw [endsR, if_neg hc]
      rw [he] at hE
      repeat' (first
        | (with_reducible refine aw_seq ?_)
        | ((with_reducible refine twoG_intro ?_ ?_) <;> intro hTw <;> first | (exact Bool.noConfusion hTw) | ((try simp only [hTw, Bool.not_true, Bool.not_false, Bool.true_and, Bool.false_and, Bool.and_true, Bool.and_false, Bool.true_or, Bool.false_or, Bool.or_true, Bool.or_false]); (first | (guard_hyp hTw : true = true; clear hTw) | (guard_hyp hTw : false = false; clear hTw) | (revert hTw; intro _))))
        | ((with_reducible refine two_intro ?_ ?_) <;> intro hTw <;> first | (exact Bool.noConfusion hTw) | ((first | (guard_hyp hTw : true = true; clear hTw) | (guard_hyp hTw : false = false; clear hTw) | (revert hTw; intro _))))
        | ((with_reducible refine And.intro ?_ ?_); (focus (first | exact keyOk_int_ | omega | rfl | decide | grind)))
        | (with_reducible refine aw_block ?_)
        | (with_reducible refine aw_scope ?_)
        | ((first
            | ((with_reducible refine aw_regionA T_ok ?_ ?_); (focus kernel_rfl))
            | ((with_reducible refine aw_drawnA T_ok ?_ ?_ ?_ ?_); (focus kernel_rfl); (focus kernel_rfl); (focus (decide +kernel)))
            | ((with_reducible refine aw_drawnF T_ok ?_ ?_ ?_ ?_); (focus kernel_rfl); (focus kernel_rfl); (focus (decide +kernel)))
            | ((with_reducible refine callK_intro (fsane_spec) (by with_unfolding_all rfl) ?_ ?_); (focus kernel_rfl))
            | ((with_reducible refine callI_spec (fsane_spec) (by with_unfolding_all rfl) ?_ ?_ ?_); (focus kernel_rfl); (focus kernel_rfl))
            | ((with_reducible refine callK_intro (hFw) (by with_unfolding_all rfl) ?_ ?_); (focus kernel_rfl))
            | ((with_reducible refine callI_spec (hFw) (by with_unfolding_all rfl) ?_ ?_ ?_); (focus kernel_rfl); (focus kernel_rfl))
            | ((with_reducible refine callK_intro (hE) (by with_unfolding_all rfl) ?_ ?_); (focus kernel_rfl))
            | ((with_reducible refine callI_spec (hE) (by with_unfolding_all rfl) ?_ ?_ ?_); (focus kernel_rfl); (focus kernel_rfl))
            | ((with_reducible refine callK_intro (hC) (by with_unfolding_all rfl) ?_ ?_); (focus kernel_rfl))
            | ((with_reducible refine callI_spec (hC) (by with_unfolding_all rfl) ?_ ?_ ?_); (focus kernel_rfl); (focus kernel_rfl))
            | (with_reducible refine aw_label ?_)
            | ((with_reducible refine aw_rfM ?_ ?_); (focus kernel_rfl))
            | (with_reducible refine aw_skip ?_)
            | (with_reducible refine aw_exit ?_)
            | ((with_reducible refine aw_condM ?_ ?_); (focus kernel_rfl))
            | (with_reducible refine aw_ret ?_)
          ); simp only [↓avP, avQ, if_true, if_false, forall_const, beq_self_eq_true, eq_self, ne_eq, implies_true, reduceIte, Nat.reduceEqDiff, Nat.reduceAdd, Nat.reduceSub, Int.reduceToNat, Nat.reduceLeDiff, Nat.reduceLT, reduceCtorEq, Int.reduceEq, retQ, retL, resV, RetV, RetOk, SubL, intD_B, lotD_B, flowD_B, snocI, snocL, ty_3, ty_27, ty_4, ty_24, ty_43, ty_22, ty_33, ty_39, lkM_bool, upM_bool, dlM_bool, boolV, boolV_getD, mpV_len, hfw, hd]; try simp (disch := omega) only [av_w, av_t1, av_tp, Int.toNat_natCast]))
      all_goals first | with_reducible exact Sub.refl _ | (refine Sub.of_eq (congrArg aB ?_); simp; done) | trace_state
    have hR : endsR f = endsF f := by rw [endsR, if_pos hc]
    rw [hc] at hC hE
    rw [hR] at hE
    obtain ⟨z1, z2, z3, z4, z5⟩ := checkF_zero hc
    have hlen := endsF_len hc
    have hnd := endsF_nd f
    have hlt : ∀ {k : Nat}, k ≠ 0 → k < (endsF f).length → (endsF f).getD (k - 1) 0 < (endsF f).getD k 0 := fun h0 h => endsF_at h0 h
    have hbd : ∀ t ∈ endsF f, 0 ≤ t ∧ t ≤ 50000 := fun t ht => by have := mem_endsF.1 ht; omega
    have hin : ∀ {N : Nat}, f.senders = N → knownF f = true → ∀ t ∈ mapAt f N, t ∈ endsF f := fun hN hk t ht => mapAt_in hc hk hN ht
    obtain ⟨E, hEe⟩ : ∃ E, E = endsF f := ⟨_, rfl⟩
    rw [← hEe] at hE hlen hnd hlt hbd hin
    have hg1 : ((E.length : Int) != f.senders) = false := by simp; omega
    repeat' (first
      | (with_reducible refine aw_seq ?_)
      | ((with_reducible refine twoG_intro ?_ ?_) <;> intro hTw <;> first | (exact Bool.noConfusion hTw) | ((try simp only [hTw, Bool.not_true, Bool.not_false, Bool.true_and, Bool.false_and, Bool.and_true, Bool.and_false, Bool.true_or, Bool.false_or, Bool.or_true, Bool.or_false]); (first | (guard_hyp hTw : true = true; clear hTw) | (guard_hyp hTw : false = false; clear hTw) | (revert hTw; intro _))))
      | ((with_reducible refine two_intro ?_ ?_) <;> intro hTw <;> first | (exact Bool.noConfusion hTw) | ((first | (guard_hyp hTw : true = true; clear hTw) | (guard_hyp hTw : false = false; clear hTw) | (revert hTw; intro _))))
      | ((with_reducible refine And.intro ?_ ?_); (focus (first | exact keyOk_int_ | omega | rfl | decide | grind)))
      | (with_reducible refine aw_block ?_)
      | (with_reducible refine aw_scope ?_)
      | ((first
          | ((with_reducible refine aw_regionA T_ok ?_ ?_); (focus kernel_rfl))
          | ((with_reducible refine aw_drawnA T_ok ?_ ?_ ?_ ?_); (focus kernel_rfl); (focus kernel_rfl); (focus (decide +kernel)))
          | ((with_reducible refine aw_drawnF T_ok ?_ ?_ ?_ ?_); (focus kernel_rfl); (focus kernel_rfl); (focus (decide +kernel)))
          | ((with_reducible refine callK_intro (fsane_spec) (by with_unfolding_all rfl) ?_ ?_); (focus kernel_rfl))
          | ((with_reducible refine callI_spec (fsane_spec) (by with_unfolding_all rfl) ?_ ?_ ?_); (focus kernel_rfl); (focus kernel_rfl))
          | ((with_reducible refine callK_intro (hFw) (by with_unfolding_all rfl) ?_ ?_); (focus kernel_rfl))
          | ((with_reducible refine callI_spec (hFw) (by with_unfolding_all rfl) ?_ ?_ ?_); (focus kernel_rfl); (focus kernel_rfl))
          | ((with_reducible refine callK_intro (hE) (by with_unfolding_all rfl) ?_ ?_); (focus kernel_rfl))
          | ((with_reducible refine callI_spec (hE) (by with_unfolding_all rfl) ?_ ?_ ?_); (focus kernel_rfl); (focus kernel_rfl))
          | ((with_reducible refine callK_intro (hC) (by with_unfolding_all rfl) ?_ ?_); (focus kernel_rfl))
          | ((with_reducible refine callI_spec (hC) (by with_unfolding_all rfl) ?_ ?_ ?_); (focus kernel_rfl); (focus kernel_rfl))
          | (with_reducible refine aw_label ?_)
          | ((with_reducible refine aw_rfM ?_ ?_); (focus kernel_rfl))
          | (with_reducible refine aw_skip ?_)
          | (with_reducible refine aw_exit ?_)
          | ((with_reducible refine aw_condM ?_ ?_); (focus kernel_rfl))
          | (with_reducible refine aw_ret ?_)
        ); simp only [↓avP, avQ, if_true, if_false, forall_const, beq_self_eq_true, eq_self, ne_eq, implies_true, reduceIte, Nat.reduceEqDiff, Nat.reduceAdd, Nat.reduceSub, Int.reduceToNat, Nat.reduceLeDiff, Nat.reduceLT, reduceCtorEq, Int.reduceEq, retQ, retL, resV, RetV, RetOk, SubL, intD_B, lotD_B, flowD_B, snocI, snocL, ty_3, ty_27, ty_4, ty_24, ty_43, ty_22, ty_33, ty_39, lkM_bool, upM_bool, dlM_bool, boolV, boolV_getD, mpV_len, hfw, hg1]; try simp (disch := omega) only [av_w, av_t1, av_tp, Int.toNat_natCast]))
    refine aw_loopI (fun k : Nat => ⟨[(1, .ptr 0 0), (3, .d (.sl 1 (intD 0) (E.map intD))), (5, .mp 1), (39, .d (.sl 1 (intD 0) (E.map intD))), (40, vI E.length), (41, vI k)],
      [(1, .map .i 3 (.bool false) (boolV false) (mpV boolV (metM (E.take k)))), (0, .cells 24 (dV (flowD f)))], 2⟩)
      (fun k => k ≤ E.length) (fun k => E.length - k) 0 (Nat.zero_le _) (wk_of [(0, some 0), (1, some 1)] rfl rfl ?_ ?_) ?_
    · simp only [wkT, wkB, wkB1, subV, subVs, subD, subB, lkN_n, lkN_c, lkT_n, lkT_c, lkB_n, lkB_c, if_true, if_false, reduceIte, Nat.reduceEqDiff, true_and, and_true, and_self, inT, ofA]
      (repeat' (first | exact trivial | rfl | exact rfl | exact subVs_d _ _ | exact subVs_dm _ _ | exact subD_refl _ | refine And.intro ?_ ?_))
    · simp only [wkT, wkB, wkB1, subV, subVs, subD, subB, lkN_n, lkN_c, lkT_n, lkT_c, lkB_n, lkB_c, if_true, if_false, reduceIte, Nat.reduceEqDiff, true_and, and_true, and_self, inT, ofA]
      (repeat' (first | exact trivial | rfl | exact rfl | exact subVs_d _ _ | exact subVs_dm _ _ | exact subD_refl _ | refine And.intro ?_ ?_))
    intro k hk
    rcases Nat.lt_or_ge k E.length with hkl | hge
    · have hd := ltd hkl
      have hb := hbd _ (getD_mem hkl)
      have ht := metM_take hkl
      by_cases h0 : k = 0
      · subst h0
        have hd0 : decide (((0 : Nat) : Int) > 0) = false := rfl
        repeat' (first
          | (with_reducible refine aw_seq ?_)
          | ((with_reducible refine twoG_intro ?_ ?_) <;> intro hTw <;> first | (exact Bool.noConfusion hTw) | ((try simp only [hTw, Bool.not_true, Bool.not_false, Bool.true_and, Bool.false_and, Bool.and_true, Bool.and_false, Bool.true_or, Bool.false_or, Bool.or_true, Bool.or_false]); (first | (guard_hyp hTw : true = true; clear hTw) | (guard_hyp hTw : false = false; clear hTw) | (revert hTw; intro _))))
          | ((with_reducible refine two_intro ?_ ?_) <;> intro hTw <;> first | (exact Bool.noConfusion hTw) | ((first | (guard_hyp hTw : true = true; clear hTw) | (guard_hyp hTw : false = false; clear hTw) | (revert hTw; intro _))))
          | ((with_reducible refine And.intro ?_ ?_); (focus (first | exact keyOk_int_ | omega | rfl | decide | grind)))
          | (with_reducible refine aw_block ?_)
          | (with_reducible refine aw_scope ?_)
          | ((first
              | ((with_reducible refine aw_regionA T_ok ?_ ?_); (focus kernel_rfl))
              | ((with_reducible refine aw_drawnA T_ok ?_ ?_ ?_ ?_); (focus kernel_rfl); (focus kernel_rfl); (focus (decide +kernel)))
              | ((with_reducible refine aw_drawnF T_ok ?_ ?_ ?_ ?_); (focus kernel_rfl); (focus kernel_rfl); (focus (decide +kernel)))
              | (with_reducible refine aw_label ?_)
              | ((with_reducible refine aw_rfM ?_ ?_); (focus kernel_rfl))
              | (with_reducible refine aw_skip ?_)
              | (with_reducible refine aw_exit ?_)
              | ((with_reducible refine aw_condM ?_ ?_); (focus kernel_rfl))
              | (with_reducible refine aw_ret ?_)
            ); simp only [↓avP, avQ, if_true, if_false, forall_const, beq_self_eq_true, eq_self, ne_eq, implies_true, reduceIte, Nat.reduceEqDiff, Nat.reduceAdd, Nat.reduceSub, Int.reduceToNat, Nat.reduceLeDiff, Nat.reduceLT, reduceCtorEq, Int.reduceEq, retQ, retL, resV, RetV, RetOk, SubL, intD_B, lotD_B, flowD_B, snocI, snocL, ty_3, ty_27, ty_4, ty_24, ty_43, ty_22, ty_33, ty_39, lkM_bool, upM_bool, dlM_bool, boolV, boolV_getD, mpV_len, hd, hd0]; try simp (disch := omega) only [av_w, av_t1, av_tp, Int.toNat_natCast]))
        refine ⟨0 + 1, by omega, by dsimp only; omega, wk_of [(0, some 0), (1, some 1)] rfl rfl ?_ ?_⟩
        · simp only [wkT, wkB, wkB1, subV, subVs, subD, subB, lkN_n, lkN_c, lkT_n, lkT_c, lkB_n, lkB_c, if_true, if_false, reduceIte, Nat.reduceEqDiff, true_and, and_true, and_self, inT, ofA]
          (repeat' (first | exact trivial | rfl | exact rfl | exact subVs_d _ _ | exact subVs_dm _ _ | exact subD_refl _ | refine And.intro ?_ ?_))
        · simp only [wkT, wkB, wkB1, subV, subVs, subD, subB, lkN_n, lkN_c, lkT_n, lkT_c, lkB_n, lkB_c, if_true, if_false, reduceIte, Nat.reduceEqDiff, true_and, and_true, and_self, inT, ofA]
          (repeat' (first | ((exact subM_mpV (subV_bool _) ht.symm)) | exact trivial | rfl | exact rfl | exact subVs_d _ _ | exact subVs_dm _ _ | exact subD_refl _ | refine And.intro ?_ ?_))
      · have hd0 : decide ((k : Int) > 0) = true := decide_eq_true (by omega)
        have hd1 : decide (E.getD k 0 ≤ E.getD (k - 1) 0) = false := decide_eq_false (by have := hlt h0 hkl; omega)
        repeat' (first
          | (with_reducible refine aw_seq ?_)
          | ((with_reducible refine twoG_intro ?_ ?_) <;> intro hTw <;> first | (exact Bool.noConfusion hTw) | ((try simp only [hTw, Bool.not_true, Bool.not_false, Bool.true_and, Bool.false_and, Bool.and_true, Bool.and_false, Bool.true_or, Bool.false_or, Bool.or_true, Bool.or_false]); (first | (guard_hyp hTw : true = true; clear hTw) | (guard_hyp hTw : false = false; clear hTw) | (revert hTw; intro _))))
          | ((with_reducible refine two_intro ?_ ?_) <;> intro hTw <;> first | (exact Bool.noConfusion hTw) | ((first | (guard_hyp hTw : true = true; clear hTw) | (guard_hyp hTw : false = false; clear hTw) | (revert hTw; intro _))))
          | ((with_reducible refine And.intro ?_ ?_); (focus (first | exact keyOk_int_ | omega | rfl | decide | grind)))
          | (with_reducible refine aw_block ?_)
          | (with_reducible refine aw_scope ?_)
          | ((first
              | ((with_reducible refine aw_regionA T_ok ?_ ?_); (focus kernel_rfl))
              | ((with_reducible refine aw_drawnA T_ok ?_ ?_ ?_ ?_); (focus kernel_rfl); (focus kernel_rfl); (focus (decide +kernel)))
              | ((with_reducible refine aw_drawnF T_ok ?_ ?_ ?_ ?_); (focus kernel_rfl); (focus kernel_rfl); (focus (decide +kernel)))
              | (with_reducible refine aw_label ?_)
              | ((with_reducible refine aw_rfM ?_ ?_); (focus kernel_rfl))
              | (with_reducible refine aw_skip ?_)
              | (with_reducible refine aw_exit ?_)
              | ((with_reducible refine aw_condM ?_ ?_); (focus kernel_rfl))
              | (with_reducible refine aw_ret ?_)
            ); simp only [↓avP, avQ, if_true, if_false, forall_const, beq_self_eq_true, eq_self, ne_eq, implies_true, reduceIte, Nat.reduceEqDiff, Nat.reduceAdd, Nat.reduceSub, Int.reduceToNat, Nat.reduceLeDiff, Nat.reduceLT, reduceCtorEq, Int.reduceEq, retQ, retL, resV, RetV, RetOk, SubL, intD_B, lotD_B, flowD_B, snocI, snocL, ty_3, ty_27, ty_4, ty_24, ty_43, ty_22, ty_33, ty_39, lkM_bool, upM_bool, dlM_bool, boolV, boolV_getD, mpV_len, hd, hd0, hd1]; try simp (disch := omega) only [av_w, av_t1, av_tp, Int.toNat_natCast]))
        refine ⟨k + 1, by omega, by dsimp only; omega, wk_of [(0, some 0), (1, some 1)] rfl rfl ?_ ?_⟩
        · simp only [wkT, wkB, wkB1, subV, subVs, subD, subB, lkN_n, lkN_c, lkT_n, lkT_c, lkB_n, lkB_c, if_true, if_false, reduceIte, Nat.reduceEqDiff, true_and, and_true, and_self, inT, ofA]
          (repeat' (first | exact trivial | rfl | exact rfl | exact subVs_d _ _ | exact subVs_dm _ _ | exact subD_refl _ | refine And.intro ?_ ?_))
        · simp only [wkT, wkB, wkB1, subV, subVs, subD, subB, lkN_n, lkN_c, lkT_n, lkT_c, lkB_n, lkB_c, if_true, if_false, reduceIte, Nat.reduceEqDiff, true_and, and_true, and_self, inT, ofA]
          (repeat' (first | ((exact subM_mpV (subV_bool _) ht.symm)) | exact trivial | rfl | exact rfl | exact subVs_d _ _ | exact subVs_dm _ _ | exact subD_refl _ | refine And.intro ?_ ?_))
    obtain rfl : k = E.length := by omega
    have hd := ged (Nat.le_refl E.length)
    rw [List.take_length]
    cases hk : knownF f with
    | false =>
      have he : errM f = 1 := by rw [errM, if_neg (by simpa using hc), hk]; rfl
      have hr : mapR f = [] := by rw [mapR, he, if_neg (by decide)]
      rw [hr, he] at hM
      repeat' (first
        | (with_reducible refine aw_seq ?_)
        | ((with_reducible refine twoG_intro ?_ ?_) <;> intro hTw <;> first | (exact Bool.noConfusion hTw) | ((try simp only [hTw, Bool.not_true, Bool.not_false, Bool.true_and, Bool.false_and, Bool.and_true, Bool.and_false, Bool.true_or, Bool.false_or, Bool.or_true, Bool.or_false]); (first | (guard_hyp hTw : true = true; clear hTw) | (guard_hyp hTw : false = false; clear hTw) | (revert hTw; intro _))))
        | ((with_reducible refine two_intro ?_ ?_) <;> intro hTw <;> first | (exact Bool.noConfusion hTw) | ((first | (guard_hyp hTw : true = true; clear hTw) | (guard_hyp hTw : false = false; clear hTw) | (revert hTw; intro _))))
        | ((with_reducible refine And.intro ?_ ?_); (focus (first | exact keyOk_int_ | omega | rfl | decide | grind)))
        | (with_reducible refine aw_block ?_)
        | (with_reducible refine aw_scope ?_)
        | ((first
            | ((with_reducible refine aw_regionA T_ok ?_ ?_); (focus kernel_rfl))
            | ((with_reducible refine aw_drawnA T_ok ?_ ?_ ?_ ?_); (focus kernel_rfl); (focus kernel_rfl); (focus (decide +kernel)))
            | ((with_reducible refine aw_drawnF T_ok ?_ ?_ ?_ ?_); (focus kernel_rfl); (focus kernel_rfl); (focus (decide +kernel)))
            | ((with_reducible refine callK_intro (hM) (by with_unfolding_all rfl) ?_ ?_); (focus kernel_rfl))
            | ((with_reducible refine callI_spec (hM) (by with_unfolding_all rfl) ?_ ?_ ?_); (focus kernel_rfl); (focus kernel_rfl))
            | ((with_reducible refine callK_intro (hK) (by with_unfolding_all rfl) ?_ ?_); (focus kernel_rfl))
            | ((with_reducible refine callI_spec (hK) (by with_unfolding_all rfl) ?_ ?_ ?_); (focus kernel_rfl); (focus kernel_rfl))
            | (with_reducible refine aw_label ?_)
            | ((with_reducible refine aw_rfM ?_ ?_); (focus kernel_rfl))
            | (with_reducible refine aw_skip ?_)
            | (with_reducible refine aw_exit ?_)
            | ((with_reducible refine aw_condM ?_ ?_); (focus kernel_rfl))
            | (with_reducible refine aw_ret ?_)
          ); simp only [↓avP, avQ, if_true, if_false, forall_const, beq_self_eq_true, eq_self, ne_eq, implies_true, reduceIte, Nat.reduceEqDiff, Nat.reduceAdd, Nat.reduceSub, Int.reduceToNat, Nat.reduceLeDiff, Nat.reduceLT, reduceCtorEq, Int.reduceEq, retQ, retL, resV, RetV, RetOk, SubL, intD_B, lotD_B, flowD_B, snocI, snocL, ty_3, ty_27, ty_4, ty_24, ty_43, ty_22, ty_33, ty_39, lkM_bool, upM_bool, dlM_bool, boolV, boolV_getD, mpV_len, hd, hk]; try simp (disch := omega) only [av_w, av_t1, av_tp, Int.toNat_natCast]))
      all_goals exact Sub.refl _
    | true =>
      obtain ⟨N, hN⟩ : ∃ N : Nat, f.senders = N := ⟨f.senders.toNat, by omega⟩
      have he : errM f = 0 := by rw [errM, if_neg (by simpa using hc), if_pos hk]
      have hr : mapR f = mapAt f N := by rw [mapR, if_pos he, hN]; rfl
      rw [hr, he] at hM
      have hml := mapAt_len f N
      have hmn := mapAt_nd hc hk hN
      have hmi := hin hN hk
      obtain ⟨m, hm⟩ : ∃ m, m = mapAt f N := ⟨_, rfl⟩
      rw [← hm] at hM hml hmn hmi
      have hg2 : ((m.length : Int) != f.senders) = false := by simp; omega
      repeat' (first
        | (with_reducible refine aw_seq ?_)
        | ((with_reducible refine twoG_intro ?_ ?_) <;> intro hTw <;> first | (exact Bool.noConfusion hTw) | ((try simp only [hTw, Bool.not_true, Bool.not_false, Bool.true_and, Bool.false_and, Bool.and_true, Bool.and_false, Bool.true_or, Bool.false_or, Bool.or_true, Bool.or_false]); (first | (guard_hyp hTw : true = true; clear hTw) | (guard_hyp hTw : false = false; clear hTw) | (revert hTw; intro _))))
        | ((with_reducible refine two_intro ?_ ?_) <;> intro hTw <;> first | (exact Bool.noConfusion hTw) | ((first | (guard_hyp hTw : true = true; clear hTw) | (guard_hyp hTw : false = false; clear hTw) | (revert hTw; intro _))))
        | ((with_reducible refine And.intro ?_ ?_); (focus (first | exact keyOk_int_ | omega | rfl | decide | grind)))
        | (with_reducible refine aw_block ?_)
        | (with_reducible refine aw_scope ?_)
        | ((first
            | ((with_reducible refine aw_regionA T_ok ?_ ?_); (focus kernel_rfl))
            | ((with_reducible refine aw_drawnA T_ok ?_ ?_ ?_ ?_); (focus kernel_rfl); (focus kernel_rfl); (focus (decide +kernel)))
            | ((with_reducible refine aw_drawnF T_ok ?_ ?_ ?_ ?_); (focus kernel_rfl); (focus kernel_rfl); (focus (decide +kernel)))
            | ((with_reducible refine callK_intro (hM) (by with_unfolding_all rfl) ?_ ?_); (focus kernel_rfl))
            | ((with_reducible refine callI_spec (hM) (by with_unfolding_all rfl) ?_ ?_ ?_); (focus kernel_rfl); (focus kernel_rfl))
            | ((with_reducible refine callK_intro (hK) (by with_unfolding_all rfl) ?_ ?_); (focus kernel_rfl))
            | ((with_reducible refine callI_spec (hK) (by with_unfolding_all rfl) ?_ ?_ ?_); (focus kernel_rfl); (focus kernel_rfl))
            | (with_reducible refine aw_label ?_)
            | ((with_reducible refine aw_rfM ?_ ?_); (focus kernel_rfl))
            | (with_reducible refine aw_skip ?_)
            | (with_reducible refine aw_exit ?_)
            | ((with_reducible refine aw_condM ?_ ?_); (focus kernel_rfl))
            | (with_reducible refine aw_ret ?_)
          ); simp only [↓avP, avQ, if_true, if_false, forall_const, beq_self_eq_true, eq_self, ne_eq, implies_true, reduceIte, Nat.reduceEqDiff, Nat.reduceAdd, Nat.reduceSub, Int.reduceToNat, Nat.reduceLeDiff, Nat.reduceLT, reduceCtorEq, Int.reduceEq, retQ, retL, resV, RetV, RetOk, SubL, intD_B, lotD_B, flowD_B, snocI, snocL, ty_3, ty_27, ty_4, ty_24, ty_43, ty_22, ty_33, ty_39, lkM_bool, upM_bool, dlM_bool, boolV, boolV_getD, mpV_len, hd, hk, hg2]; try simp (disch := omega) only [av_w, av_t1, av_tp, Int.toNat_natCast]))
      refine aw_loopI (fun x : Nat × AM Bool => ⟨[(5, .mp 1), (84, .d (.sl 1 (intD 0) (m.map intD))), (85, vI m.length), (86, vI x.1)],
        [(1, .map .i 3 (.bool false) (boolV false) (mpV boolV x.2))], 2⟩)
        (fun x => x.1 ≤ m.length ∧ MetInv E (m.take x.1) x.2) (fun x => m.length - x.1) (0, metM E) ⟨Nat.zero_le _, by rw [List.take_zero]; exact metInv_zero hnd⟩ (wk_of [(1, some 1)] rfl rfl ?_ ?_) ?_
      · simp only [wkT, wkB, wkB1, subV, subVs, subD, subB, lkN_n, lkN_c, lkT_n, lkT_c, lkB_n, lkB_c, if_true, if_false, reduceIte, Nat.reduceEqDiff, true_and, and_true, and_self, inT, ofA]
        (repeat' (first | exact trivial | rfl | exact rfl | exact subVs_d _ _ | exact subVs_dm _ _ | exact subD_refl _ | refine And.intro ?_ ?_))
      · simp only [wkT, wkB, wkB1, subV, subVs, subD, subB, lkN_n, lkN_c, lkT_n, lkT_c, lkB_n, lkB_c, if_true, if_false, reduceIte, Nat.reduceEqDiff, true_and, and_true, and_self, inT, ofA]
        (repeat' (first | ((exact subM_mpV (subV_bool _) rfl)) | exact trivial | rfl | exact rfl | exact subVs_d _ _ | exact subVs_dm _ _ | exact subD_refl _ | refine And.intro ?_ ?_))
      rintro ⟨k, M⟩ ⟨hkl, hI⟩
      dsimp only at hkl hI ⊢
      rcases Nat.lt_or_ge k m.length with hlt2 | hge2
      · have hd2 := ltd hlt2
        have hmE := hmi _ (getD_mem hlt2)
        have hmb := hbd _ hmE
        have hnt := ((nodup_take hlt2).1 (hmn.sublist (List.take_sublist _ _))).2
        have hz := hI.lk _ hmE hnt
        have hI' := hI.del hmE hnt
        rw [show m.take k ++ [m.getD k 0] = m.take (k + 1) by rw [List.take_succ_eq_append_getElem hlt2]; simp [List.getD, hlt2]] at hI'
        repeat' (first
          | (with_reducible refine aw_seq ?_)
          | ((with_reducible refine twoG_intro ?_ ?_) <;> intro hTw <;> first | (exact Bool.noConfusion hTw) | ((try simp only [hTw, Bool.not_true, Bool.not_false, Bool.true_and, Bool.false_and, Bool.and_true, Bool.and_false, Bool.true_or, Bool.false_or, Bool.or_true, Bool.or_false]); (first | (guard_hyp hTw : true = true; clear hTw) | (guard_hyp hTw : false = false; clear hTw) | (revert hTw; intro _))))
          | ((with_reducible refine two_intro ?_ ?_) <;> intro hTw <;> first | (exact Bool.noConfusion hTw) | ((first | (guard_hyp hTw : true = true; clear hTw) | (guard_hyp hTw : false = false; clear hTw) | (revert hTw; intro _))))
          | ((with_reducible refine And.intro ?_ ?_); (focus (first | exact keyOk_int_ | omega | rfl | decide | grind)))
          | (with_reducible refine aw_block ?_)
          | (with_reducible refine aw_scope ?_)
          | ((first
              | ((with_reducible refine aw_regionA T_ok ?_ ?_); (focus kernel_rfl))
              | ((with_reducible refine aw_drawnA T_ok ?_ ?_ ?_ ?_); (focus kernel_rfl); (focus kernel_rfl); (focus (decide +kernel)))
              | ((with_reducible refine aw_drawnF T_ok ?_ ?_ ?_ ?_); (focus kernel_rfl); (focus kernel_rfl); (focus (decide +kernel)))
              | (with_reducible refine aw_label ?_)
              | ((with_reducible refine aw_rfM ?_ ?_); (focus kernel_rfl))
              | (with_reducible refine aw_skip ?_)
              | (with_reducible refine aw_exit ?_)
              | ((with_reducible refine aw_condM ?_ ?_); (focus kernel_rfl))
              | (with_reducible refine aw_ret ?_)
            ); simp only [↓avP, avQ, if_true, if_false, forall_const, beq_self_eq_true, eq_self, ne_eq, implies_true, reduceIte, Nat.reduceEqDiff, Nat.reduceAdd, Nat.reduceSub, Int.reduceToNat, Nat.reduceLeDiff, Nat.reduceLT, reduceCtorEq, Int.reduceEq, retQ, retL, resV, RetV, RetOk, SubL, intD_B, lotD_B, flowD_B, snocI, snocL, ty_3, ty_27, ty_4, ty_24, ty_43, ty_22, ty_33, ty_39, lkM_bool, upM_bool, dlM_bool, boolV, boolV_getD, mpV_len, hd2, hz]; try simp (disch := omega) only [av_w, av_t1, av_tp, Int.toNat_natCast]))
        refine ⟨(k + 1, _), ⟨by omega, hI'⟩, by dsimp only; omega, wk_of [(1, some 1)] rfl rfl ?_ ?_⟩
        · simp only [wkT, wkB, wkB1, subV, subVs, subD, subB, lkN_n, lkN_c, lkT_n, lkT_c, lkB_n, lkB_c, if_true, if_false, reduceIte, Nat.reduceEqDiff, true_and, and_true, and_self, inT, ofA]
          (repeat' (first | exact trivial | rfl | exact rfl | exact subVs_d _ _ | exact subVs_dm _ _ | exact subD_refl _ | refine And.intro ?_ ?_))
        · simp only [wkT, wkB, wkB1, subV, subVs, subD, subB, lkN_n, lkN_c, lkT_n, lkT_c, lkB_n, lkB_c, if_true, if_false, reduceIte, Nat.reduceEqDiff, true_and, and_true, and_self, inT, ofA]
          (repeat' (first | ((exact subM_mpV (subV_bool _) rfl)) | exact trivial | rfl | exact rfl | exact subVs_d _ _ | exact subVs_dm _ _ | exact subD_refl _ | refine And.intro ?_ ?_))
      · obtain rfl : k = m.length := by omega
        have hd2 := ged (Nat.le_refl m.length)
        have hML : M.length = 0 := by
          have := hI.len
          rw [List.take_length] at this
          omega
        repeat' (first
          | (with_reducible refine aw_seq ?_)
          | ((with_reducible refine twoG_intro ?_ ?_) <;> intro hTw <;> first | (exact Bool.noConfusion hTw) | ((try simp only [hTw, Bool.not_true, Bool.not_false, Bool.true_and, Bool.false_and, Bool.and_true, Bool.and_false, Bool.true_or, Bool.false_or, Bool.or_true, Bool.or_false]); (first | (guard_hyp hTw : true = true; clear hTw) | (guard_hyp hTw : false = false; clear hTw) | (revert hTw; intro _))))
          | ((with_reducible refine two_intro ?_ ?_) <;> intro hTw <;> first | (exact Bool.noConfusion hTw) | ((first | (guard_hyp hTw : true = true; clear hTw) | (guard_hyp hTw : false = false; clear hTw) | (revert hTw; intro _))))
          | ((with_reducible refine And.intro ?_ ?_); (focus (first | exact keyOk_int_ | omega | rfl | decide | grind)))
          | (with_reducible refine aw_block ?_)
          | (with_reducible refine aw_scope ?_)
          | ((first
              | ((with_reducible refine aw_regionA T_ok ?_ ?_); (focus kernel_rfl))
              | ((with_reducible refine aw_drawnA T_ok ?_ ?_ ?_ ?_); (focus kernel_rfl); (focus kernel_rfl); (focus (decide +kernel)))
              | ((with_reducible refine aw_drawnF T_ok ?_ ?_ ?_ ?_); (focus kernel_rfl); (focus kernel_rfl); (focus (decide +kernel)))
              | (with_reducible refine aw_label ?_)
              | ((with_reducible refine aw_rfM ?_ ?_); (focus kernel_rfl))
              | (with_reducible refine aw_skip ?_)
              | (with_reducible refine aw_exit ?_)
              | ((with_reducible refine aw_condM ?_ ?_); (focus kernel_rfl))
              | (with_reducible refine aw_ret ?_)
            ); simp only [↓avP, avQ, if_true, if_false, forall_const, beq_self_eq_true, eq_self, ne_eq, implies_true, reduceIte, Nat.reduceEqDiff, Nat.reduceAdd, Nat.reduceSub, Int.reduceToNat, Nat.reduceLeDiff, Nat.reduceLT, reduceCtorEq, Int.reduceEq, retQ, retL, resV, RetV, RetOk, SubL, intD_B, lotD_B, flowD_B, snocI, snocL, ty_3, ty_27, ty_4, ty_24, ty_43, ty_22, ty_33, ty_39, lkM_bool, upM_bool, dlM_bool, boolV, boolV_getD, mpV_len, hd2]; try simp (disch := omega) only [av_w, av_t1, av_tp, Int.toNat_natCast]))
        exact Sub.of_eq (congrArg aB (by rw [hML]; rfl))
end Go.Proofs.Ytfndjciojljkfaa

namespace Go.Proofs.Ytfndjciojljkfaa
set_option linter.unusedSimpArgs false
set_option linter.unusedVariables false
open Go.RowKit
abbrev takeF (f : FlowP) (k : Nat) : FlowP := ⟨f.senders, f.lots.take k⟩
section
variable {f : FlowP} {k i : Nat}
theorem take_bef (h : i ≤ k) : befF (takeF f k) i = befF f i := by
  unfold befF
  simp only [List.take_take, Nat.min_eq_left h]
theorem take_gone (h : i ≤ k) : goneF (takeF f k) i = goneF f i := by
  unfold goneF
  simp only [List.take_take, Nat.min_eq_left h]
theorem take_at (h : i < k) : (takeF f k).lots.getD i default = f.lots.getD i default := by
  simp only [List.getD_eq_getElem?_getD, List.getElem?_take, if_pos h]
theorem take_len (h : k ≤ f.lots.length) : (takeF f k).lots.length = k := by simp; omega
theorem check_take (hc : checkF f = 0) (hk : k ≤ f.lots.length) : checkF (takeF f k) = 0 := by
  obtain ⟨z1, z2, z3, z4, z5⟩ := checkF_zero hc
  have hl := take_len hk
  have hb := befF_mono (f := f) hk
  unfold checkF
  rw [hl, take_bef (Nat.le_refl k), if_neg (by show ¬ (64 < f.senders ∨ _); omega), if_neg (by show ¬ f.senders < 0; omega), if_pos]
  unfold validF
  rw [hl, List.all_eq_true]
  intro i hi
  have hik : i < k := by simpa using hi
  have := z5 i (by omega)
  unfold okAt at this ⊢
  rw [take_bef (by omega), take_gone (by omega), take_at hik]
  exact this
theorem OkF.take (hf : OkF f) (k : Nat) : OkF (takeF f k) := ⟨hf.s, Nat.le_trans (List.length_take_le' _ _) hf.l, fun x hx => hf.lots x (List.mem_of_mem_take hx)⟩
theorem mem_take (hk : k ≤ f.lots.length) {t : Int} : t ∈ endsF (takeF f k) ↔ 0 ≤ t ∧ t < befF f k ∧ t ∉ goneF f k := by
  rw [mem_endsF, take_len hk, take_bef (Nat.le_refl k), take_gone (Nat.le_refl k)]
/-- an end of the first lots stays one, or goes into the next lot -/
theorem first_old (hk : k < f.lots.length) {t : Int} (h : t ∈ endsF (takeF f k)) : t ∈ endsF (takeF f (k + 1)) ↔ t ∉ (f.lots.getD k default).inn := by
  rw [mem_take (by omega)] at h
  rw [mem_take (by omega), befF_succ hk, goneF_succ hk, List.mem_append, not_or]
  exact ⟨fun h2 => h2.2.2.2, fun h2 => ⟨h.1, by omega, h.2.2, h2⟩⟩
theorem first_new (hc : checkF f = 0) (hk : k < f.lots.length) {i : Nat} (hi : i < (f.lots.getD k default).inn.length) : befF f k + i ∈ endsF (takeF f (k + 1)) := by
  have hg := goodL_at hc hk
  have hb := befF_mono (f := f) (k := k) (by omega)
  have z := checkF_zero hc
  rw [mem_take (by omega), befF_succ hk, goneF_succ hk, List.mem_append, not_or]
  refine ⟨by omega, by omega, fun h => ?_, fun h => ?_⟩
  · have := gone_lt hc (k := k) (by omega) _ h; omega
  · have := hg.fr _ h; omega
end
end Go.Proofs.Ytfndjciojljkfaa

namespace Go.Proofs.Ytfndjciojljkfaa
set_option linter.unusedSimpArgs false
set_option linter.unusedVariables false
open Go.RowKit
set_option maxRecDepth 100000
set_option maxHeartbeats 4000000
theorem wf_byte {n : Int} (h : (Lit.int .u8 n).wf = true) : 0 ≤ n ∧ n ≤ 255 := by simpa [Lit.wf, IntKind.min, IntKind.max, IntKind.signed, IntKind.bits] using h
theorem flaw4_spec (f : FlowP) (at_ : Int) (hf : OkF f) (ha : 0 ≤ at_ ∧ at_ ≤ 255) : Spec Try.prog 6 [.agg (flowD f), .one (.c (.int .u8 at_))] (.r1 (aB true)) := by
  refine spec_of T_ok Try.func6 (by dsimp only [Try.f6]) rfl rfl (by simp) fun w F => ?_
  have hFw := ffew_spec f hf.l
  have hC := fcheck_spec f hf
  have hQ := qfcheck_spec f hf
  cases hfw : fewF f with
  | false =>
    repeat' (first
      | (with_reducible refine aw_seq ?_)
      | ((with_reducible refine twoG_intro ?_ ?_) <;> intro hTw <;> first | (exact Bool.noConfusion hTw) | ((try simp only [hTw, Bool.not_true, Bool.not_false, Bool.true_and, Bool.false_and, Bool.and_true, Bool.and_false, Bool.true_or, Bool.false_or, Bool.or_true, Bool.or_false]); (first | (guard_hyp hTw : true = true; clear hTw) | (guard_hyp hTw : false = false; clear hTw) | (revert hTw; intro _))))
      | ((with_reducible refine two_intro ?_ ?_) <;> intro hTw <;> first | (exact Bool.noConfusion hTw) | ((first | (guard_hyp hTw : true = true; clear hTw) | (guard_hyp hTw : false = false; clear hTw) | (revert hTw; intro _))))
      | ((with_reducible refine And.intro ?_ ?_); (focus (first | omega | rfl | decide | grind)))
      | (with_reducible refine aw_block ?_)
      | (with_reducible refine aw_scope ?_)
      | ((first
          | ((with_reducible refine aw_regionA T_ok ?_ ?_); (focus kernel_rfl))
          | ((with_reducible refine aw_drawnA T_ok ?_ ?_ ?_ ?_); (focus kernel_rfl); (focus kernel_rfl); (focus (decide +kernel)))
          | ((with_reducible refine aw_drawnF T_ok ?_ ?_ ?_ ?_); (focus kernel_rfl); (focus kernel_rfl); (focus (decide +kernel)))
          | ((with_reducible refine callK_intro (fsane_spec) (by with_unfolding_all rfl) ?_ ?_); (focus kernel_rfl))
          | ((with_reducible refine callI_spec (fsane_spec) (by with_unfolding_all rfl) ?_ ?_ ?_); (focus kernel_rfl); (focus kernel_rfl))
          | ((with_reducible refine callK_intro (hFw) (by with_unfolding_all rfl) ?_ ?_); (focus kernel_rfl))
          | ((with_reducible refine callI_spec (hFw) (by with_unfolding_all rfl) ?_ ?_ ?_); (focus kernel_rfl); (focus kernel_rfl))
          | ((with_reducible refine callK_intro (hC) (by with_unfolding_all rfl) ?_ ?_); (focus kernel_rfl))
          | ((with_reducible refine callI_spec (hC) (by with_unfolding_all rfl) ?_ ?_ ?_); (focus kernel_rfl); (focus kernel_rfl))
          | ((with_reducible refine callK_intro (hQ) (by with_unfolding_all rfl) ?_ ?_); (focus kernel_rfl))
          | ((with_reducible refine callI_spec (hQ) (by with_unfolding_all rfl) ?_ ?_ ?_); (focus kernel_rfl); (focus kernel_rfl))
          | ((with_reducible refine callK_skip (.r1 (aI 0)) (by with_unfolding_all rfl) ?_ ?_); (focus kernel_rfl))
          | (with_reducible refine aw_label ?_)
          | ((with_reducible refine aw_rfM ?_ ?_); (focus kernel_rfl))
          | (with_reducible refine aw_skip ?_)
          | (with_reducible refine aw_exit ?_)
          | ((with_reducible refine aw_condM ?_ ?_); (focus kernel_rfl))
          | (with_reducible refine aw_ret ?_)
        ); simp only [↓avP, avQ, if_true, if_false, forall_const, beq_self_eq_true, eq_self, ne_eq, implies_true, reduceIte, Nat.reduceEqDiff, Nat.reduceAdd, Nat.reduceSub, Int.reduceToNat, Nat.reduceLeDiff, Nat.reduceLT, reduceCtorEq, Int.reduceEq, retQ, retL, resV, RetV, RetOk, SubL, intD_B, lotD_B, flowD_B, snocI, snocL, ty_3, ty_5, ty_27, ty_4, ty_24, ty_43, ty_22, ty_33, ← List.map_take, hfw]; try simp (disch := omega) only [av_w, av_t1, av_tp, Int.toNat_natCast]))
    all_goals first | with_reducible exact Sub.refl _ | (refine Sub.of_eq (congrArg aB ?_); simp; done)
  | true =>
    by_cases hc : checkF f = 0
    rotate_left
    · have hd : (checkF f != 0) = true := by simpa using hc
      repeat' (first
        | (with_reducible refine aw_seq ?_)
        | ((with_reducible refine twoG_intro ?_ ?_) <;> intro hTw <;> first | (exact Bool.noConfusion hTw) | ((try simp only [hTw, Bool.not_true, Bool.not_false, Bool.true_and, Bool.false_and, Bool.and_true, Bool.and_false, Bool.true_or, Bool.false_or, Bool.or_true, Bool.or_false]); (first | (guard_hyp hTw : true = true; clear hTw) | (guard_hyp hTw : false = false; clear hTw) | (revert hTw; intro _))))
        | ((with_reducible refine two_intro ?_ ?_) <;> intro hTw <;> first | (exact Bool.noConfusion hTw) | ((first | (guard_hyp hTw : true = true; clear hTw) | (guard_hyp hTw : false = false; clear hTw) | (revert hTw; intro _))))
        | ((with_reducible refine And.intro ?_ ?_); (focus (first | omega | rfl | decide | grind)))
        | (with_reducible refine aw_block ?_)
        | (with_reducible refine aw_scope ?_)
        | ((first
            | ((with_reducible refine aw_regionA T_ok ?_ ?_); (focus kernel_rfl))
            | ((with_reducible refine aw_drawnA T_ok ?_ ?_ ?_ ?_); (focus kernel_rfl); (focus kernel_rfl); (focus (decide +kernel)))
            | ((with_reducible refine aw_drawnF T_ok ?_ ?_ ?_ ?_); (focus kernel_rfl); (focus kernel_rfl); (focus (decide +kernel)))
            | ((with_reducible refine callK_intro (fsane_spec) (by with_unfolding_all rfl) ?_ ?_); (focus kernel_rfl))
            | ((with_reducible refine callI_spec (fsane_spec) (by with_unfolding_all rfl) ?_ ?_ ?_); (focus kernel_rfl); (focus kernel_rfl))
            | ((with_reducible refine callK_intro (hFw) (by with_unfolding_all rfl) ?_ ?_); (focus kernel_rfl))
            | ((with_reducible refine callI_spec (hFw) (by with_unfolding_all rfl) ?_ ?_ ?_); (focus kernel_rfl); (focus kernel_rfl))
            | ((with_reducible refine callK_intro (hC) (by with_unfolding_all rfl) ?_ ?_); (focus kernel_rfl))
            | ((with_reducible refine callI_spec (hC) (by with_unfolding_all rfl) ?_ ?_ ?_); (focus kernel_rfl); (focus kernel_rfl))
            | ((with_reducible refine callK_intro (hQ) (by with_unfolding_all rfl) ?_ ?_); (focus kernel_rfl))
            | ((with_reducible refine callI_spec (hQ) (by with_unfolding_all rfl) ?_ ?_ ?_); (focus kernel_rfl); (focus kernel_rfl))
            | ((with_reducible refine callK_skip (.r1 (aI 0)) (by with_unfolding_all rfl) ?_ ?_); (focus kernel_rfl))
            | (with_reducible refine aw_label ?_)
            | ((with_reducible refine aw_rfM ?_ ?_); (focus kernel_rfl))
            | (with_reducible refine aw_skip ?_)
            | (with_reducible refine aw_exit ?_)
            | ((with_reducible refine aw_condM ?_ ?_); (focus kernel_rfl))
            | (with_reducible refine aw_ret ?_)
          ); simp only [↓avP, avQ, if_true, if_false, forall_const, beq_self_eq_true, eq_self, ne_eq, implies_true, reduceIte, Nat.reduceEqDiff, Nat.reduceAdd, Nat.reduceSub, Int.reduceToNat, Nat.reduceLeDiff, Nat.reduceLT, reduceCtorEq, Int.reduceEq, retQ, retL, resV, RetV, RetOk, SubL, intD_B, lotD_B, flowD_B, snocI, snocL, ty_3, ty_5, ty_27, ty_4, ty_24, ty_43, ty_22, ty_33, ← List.map_take, hfw, hd]; try simp (disch := omega) only [av_w, av_t1, av_tp, Int.toNat_natCast]))
      all_goals first | with_reducible exact Sub.refl _ | (refine Sub.of_eq (congrArg aB ?_); simp; done)
    rw [hc] at hC hQ
    by_cases hl0 : f.lots.length = 0
    · have hd : ((f.lots.length : Int) == 0) = true := by rw [hl0]; rfl
      repeat' (first
        | (with_reducible refine aw_seq ?_)
        | ((with_reducible refine twoG_intro ?_ ?_) <;> intro hTw <;> first | (exact Bool.noConfusion hTw) | ((try simp only [hTw, Bool.not_true, Bool.not_false, Bool.true_and, Bool.false_and, Bool.and_true, Bool.and_false, Bool.true_or, Bool.false_or, Bool.or_true, Bool.or_false]); (first | (guard_hyp hTw : true = true; clear hTw) | (guard_hyp hTw : false = false; clear hTw) | (revert hTw; intro _))))
        | ((with_reducible refine two_intro ?_ ?_) <;> intro hTw <;> first | (exact Bool.noConfusion hTw) | ((first | (guard_hyp hTw : true = true; clear hTw) | (guard_hyp hTw : false = false; clear hTw) | (revert hTw; intro _))))
        | ((with_reducible refine And.intro ?_ ?_); (focus (first | omega | rfl | decide | grind)))
        | (with_reducible refine aw_block ?_)
        | (with_reducible refine aw_scope ?_)
        | ((first
            | ((with_reducible refine aw_regionA T_ok ?_ ?_); (focus kernel_rfl))
            | ((with_reducible refine aw_drawnA T_ok ?_ ?_ ?_ ?_); (focus kernel_rfl); (focus kernel_rfl); (focus (decide +kernel)))
            | ((with_reducible refine aw_drawnF T_ok ?_ ?_ ?_ ?_); (focus kernel_rfl); (focus kernel_rfl); (focus (decide +kernel)))
            | ((with_reducible refine callK_intro (fsane_spec) (by with_unfolding_all rfl) ?_ ?_); (focus kernel_rfl))
            | ((with_reducible refine callI_spec (fsane_spec) (by with_unfolding_all rfl) ?_ ?_ ?_); (focus kernel_rfl); (focus kernel_rfl))
            | ((with_reducible refine callK_intro (hFw) (by with_unfolding_all rfl) ?_ ?_); (focus kernel_rfl))
            | ((with_reducible refine callI_spec (hFw) (by with_unfolding_all rfl) ?_ ?_ ?_); (focus kernel_rfl); (focus kernel_rfl))
            | ((with_reducible refine callK_intro (hC) (by with_unfolding_all rfl) ?_ ?_); (focus kernel_rfl))
            | ((with_reducible refine callI_spec (hC) (by with_unfolding_all rfl) ?_ ?_ ?_); (focus kernel_rfl); (focus kernel_rfl))
            | ((with_reducible refine callK_intro (hQ) (by with_unfolding_all rfl) ?_ ?_); (focus kernel_rfl))
            | ((with_reducible refine callI_spec (hQ) (by with_unfolding_all rfl) ?_ ?_ ?_); (focus kernel_rfl); (focus kernel_rfl))
            | (with_reducible refine aw_label ?_)
            | ((with_reducible refine aw_rfM ?_ ?_); (focus kernel_rfl))
            | (with_reducible refine aw_skip ?_)
            | (with_reducible refine aw_exit ?_)
            | ((with_reducible refine aw_condM ?_ ?_); (focus kernel_rfl))
            | (with_reducible refine aw_ret ?_)
          ); simp only [↓avP, avQ, if_true, if_false, forall_const, beq_self_eq_true, eq_self, ne_eq, implies_true, reduceIte, Nat.reduceEqDiff, Nat.reduceAdd, Nat.reduceSub, Int.reduceToNat, Nat.reduceLeDiff, Nat.reduceLT, reduceCtorEq, Int.reduceEq, retQ, retL, resV, RetV, RetOk, SubL, intD_B, lotD_B, flowD_B, snocI, snocL, ty_3, ty_5, ty_27, ty_4, ty_24, ty_43, ty_22, ty_33, ← List.map_take, hfw, hd]; try simp (disch := omega) only [av_w, av_t1, av_tp, Int.toNat_natCast]))
      all_goals first | with_reducible exact Sub.refl _ | (refine Sub.of_eq (congrArg aB ?_); simp; done)
    have hd : ((f.lots.length : Int) == 0) = false := by simp; intro e; exact hl0 (by rw [e]; rfl)
    obtain ⟨z1, z2, z3, z4, z5⟩ := checkF_zero hc
    have hs := checkF_small hc
    obtain ⟨k, hk, hkl⟩ : ∃ k : Nat, Int.tmod at_ f.lots.length = k ∧ k < f.lots.length := by
      have h1 := Int.tmod_nonneg (f.lots.length : Int) ha.1
      have h2 := Int.tmod_lt_of_pos at_ (b := (f.lots.length : Int)) (by omega)
      exact ⟨(Int.tmod at_ f.lots.length).toNat, by omega, by omega⟩
    have ca := check_take hc (k := k) (by omega)
    have cb := check_take hc (k := k + 1) (by omega)
    have hA := fends_spec (takeF f k) (hf.take k)
    have hB := fends_spec (takeF f (k + 1)) (hf.take (k + 1))
    have ea : endsR (takeF f k) = endsF (takeF f k) := by rw [endsR, if_pos ca]
    have eb : endsR (takeF f (k + 1)) = endsF (takeF f (k + 1)) := by rw [endsR, if_pos cb]
    rw [ea, ca] at hA
    rw [eb, cb] at hB
    have la : ((endsF (takeF f k)).length : Int) = f.senders := endsF_len ca
    have lb : ((endsF (takeF f (k + 1))).length : Int) = f.senders := endsF_len cb
    have hold : ∀ t, t ∈ endsF (takeF f k) → (t ∈ endsF (takeF f (k + 1)) ↔ t ∉ (f.lots.getD k default).inn) := fun t ht => first_old hkl ht
    have hnew : ∀ {i : Nat}, i < (f.lots.getD k default).inn.length → befF f k + i ∈ endsF (takeF f (k + 1)) := fun hi => first_new hc hkl hi
    have hbf := qbefore_spec f k hf hs (by omega)
    have hbb := befF_mono (f := f) (k := k + 1) (by omega)
    have hbs := befF_succ hkl
    have hok := hf.at k
    obtain ⟨a, hae⟩ : ∃ a, a = endsF (takeF f k) := ⟨_, rfl⟩
    obtain ⟨b, hbe⟩ : ∃ b, b = endsF (takeF f (k + 1)) := ⟨_, rfl⟩
    obtain ⟨x, hx⟩ : ∃ x, x = f.lots.getD k default := ⟨_, rfl⟩
    rw [← hae] at hA la hold
    rw [← hbe] at hB lb hold hnew
    rw [← hx] at hold hnew hok hbs
    have la' : ((a.length : Int) != f.senders) = false := by simp; exact la
    have lb' : ((b.length : Int) != f.senders) = false := by simp; exact lb
    have hb0 := befF_mono (f := f) (k := k) (by omega)
    have hxl := hok.li
    have hH := fun p => has_spec b p (by omega)
    have hH2 := fun p => has_spec x.inn p hxl
    repeat' (first
      | (with_reducible refine aw_seq ?_)
      | ((with_reducible refine twoG_intro ?_ ?_) <;> intro hTw <;> first | (exact Bool.noConfusion hTw) | ((try simp only [hTw, Bool.not_true, Bool.not_false, Bool.true_and, Bool.false_and, Bool.and_true, Bool.and_false, Bool.true_or, Bool.false_or, Bool.or_true, Bool.or_false]); (first | (guard_hyp hTw : true = true; clear hTw) | (guard_hyp hTw : false = false; clear hTw) | (revert hTw; intro _))))
      | ((with_reducible refine two_intro ?_ ?_) <;> intro hTw <;> first | (exact Bool.noConfusion hTw) | ((first | (guard_hyp hTw : true = true; clear hTw) | (guard_hyp hTw : false = false; clear hTw) | (revert hTw; intro _))))
      | ((with_reducible refine And.intro ?_ ?_); (focus (first | omega | rfl | decide | grind)))
      | (with_reducible refine aw_block ?_)
      | (with_reducible refine aw_scope ?_)
      | ((first
          | ((with_reducible refine aw_regionA T_ok ?_ ?_); (focus kernel_rfl))
          | ((with_reducible refine aw_drawnA T_ok ?_ ?_ ?_ ?_); (focus kernel_rfl); (focus kernel_rfl); (focus (decide +kernel)))
          | ((with_reducible refine aw_drawnF T_ok ?_ ?_ ?_ ?_); (focus kernel_rfl); (focus kernel_rfl); (focus (decide +kernel)))
          | ((with_reducible refine callK_intro (fsane_spec) (by with_unfolding_all rfl) ?_ ?_); (focus kernel_rfl))
          | ((with_reducible refine callI_spec (fsane_spec) (by with_unfolding_all rfl) ?_ ?_ ?_); (focus kernel_rfl); (focus kernel_rfl))
          | ((with_reducible refine callK_intro (hFw) (by with_unfolding_all rfl) ?_ ?_); (focus kernel_rfl))
          | ((with_reducible refine callI_spec (hFw) (by with_unfolding_all rfl) ?_ ?_ ?_); (focus kernel_rfl); (focus kernel_rfl))
          | ((with_reducible refine callK_intro (hC) (by with_unfolding_all rfl) ?_ ?_); (focus kernel_rfl))
          | ((with_reducible refine callI_spec (hC) (by with_unfolding_all rfl) ?_ ?_ ?_); (focus kernel_rfl); (focus kernel_rfl))
          | ((with_reducible refine callK_intro (hQ) (by with_unfolding_all rfl) ?_ ?_); (focus kernel_rfl))
          | ((with_reducible refine callI_spec (hQ) (by with_unfolding_all rfl) ?_ ?_ ?_); (focus kernel_rfl); (focus kernel_rfl))
          | ((with_reducible refine callK_intro (hA) (by with_unfolding_all rfl) ?_ ?_); (focus kernel_rfl))
          | ((with_reducible refine callI_spec (hA) (by with_unfolding_all rfl) ?_ ?_ ?_); (focus kernel_rfl); (focus kernel_rfl))
          | ((with_reducible refine callK_intro (hB) (by with_unfolding_all rfl) ?_ ?_); (focus kernel_rfl))
          | ((with_reducible refine callI_spec (hB) (by with_unfolding_all rfl) ?_ ?_ ?_); (focus kernel_rfl); (focus kernel_rfl))
          | ((with_reducible refine callK_intro (hbf) (by with_unfolding_all rfl) ?_ ?_); (focus kernel_rfl))
          | ((with_reducible refine callI_spec (hbf) (by with_unfolding_all rfl) ?_ ?_ ?_); (focus kernel_rfl); (focus kernel_rfl))
          | (with_reducible refine aw_label ?_)
          | ((with_reducible refine aw_rfM ?_ ?_); (focus kernel_rfl))
          | (with_reducible refine aw_skip ?_)
          | (with_reducible refine aw_exit ?_)
          | ((with_reducible refine aw_condM ?_ ?_); (focus kernel_rfl))
          | (with_reducible refine aw_ret ?_)
        ); simp only [↓avP, avQ, if_true, if_false, forall_const, beq_self_eq_true, eq_self, ne_eq, implies_true, reduceIte, Nat.reduceEqDiff, Nat.reduceAdd, Nat.reduceSub, Int.reduceToNat, Nat.reduceLeDiff, Nat.reduceLT, reduceCtorEq, Int.reduceEq, retQ, retL, resV, RetV, RetOk, SubL, intD_B, lotD_B, flowD_B, snocI, snocL, ty_3, ty_5, ty_27, ty_4, ty_24, ty_43, ty_22, ty_33, ← List.map_take, hfw, hd, hk, la', lb', ← hx]; try simp (disch := omega) only [av_w, av_t1, av_tp, Int.toNat_natCast]))
    refine aw_loopI (fun i : Nat => ⟨[(2, .ptr 0 0), (5, vI k), (8, .d (.sl 1 (intD 0) (b.map intD))), (10, vI (befF f k)), (97, .d (.sl 1 (intD 0) (a.map intD))), (98, vI a.length), (99, vI i)], [(0, .cells 24 (dV (flowD f)))], 1⟩)
      (fun i => i ≤ a.length) (fun i => a.length - i) 0 (Nat.zero_le _) (wk_of [(0, some 0)] rfl rfl ?_ ?_) ?_
    · simp only [wkT, wkB, wkB1, subV, subVs, subD, subB, lkN_n, lkN_c, lkT_n, lkT_c, lkB_n, lkB_c, if_true, if_false, reduceIte, Nat.reduceEqDiff, true_and, and_true, and_self, inT, ofA]
      (repeat' (first | exact trivial | rfl | exact rfl | exact subVs_d _ _ | exact subVs_dm _ _ | exact subD_refl _ | refine And.intro ?_ ?_))
    · simp only [wkT, wkB, wkB1, subV, subVs, subD, subB, lkN_n, lkN_c, lkT_n, lkT_c, lkB_n, lkB_c, if_true, if_false, reduceIte, Nat.reduceEqDiff, true_and, and_true, and_self, inT, ofA]
      (repeat' (first | exact trivial | rfl | exact rfl | exact subVs_d _ _ | exact subVs_dm _ _ | exact subD_refl _ | refine And.intro ?_ ?_))
    intro i hi
    rcases Nat.lt_or_ge i a.length with hil | hig
    · have hd2 := ltd hil
      have ht := hold _ (getD_mem hil)
      have h1 := hH (a.getD i 0)
      have h2 := hH2 (a.getD i 0)
      have hq : (decide (a.getD i 0 ∈ b) == decide (a.getD i 0 ∈ x.inn)) = false := by
        by_cases h : a.getD i 0 ∈ x.inn
        · rw [decide_eq_true h, decide_eq_false (fun hb => ht.1 hb h)]; rfl
        · rw [decide_eq_false h, decide_eq_true (ht.2 h)]; rfl
      repeat' (first
        | (with_reducible refine aw_seq ?_)
        | ((with_reducible refine twoG_intro ?_ ?_) <;> intro hTw <;> first | (exact Bool.noConfusion hTw) | ((try simp only [hTw, Bool.not_true, Bool.not_false, Bool.true_and, Bool.false_and, Bool.and_true, Bool.and_false, Bool.true_or, Bool.false_or, Bool.or_true, Bool.or_false]); (first | (guard_hyp hTw : true = true; clear hTw) | (guard_hyp hTw : false = false; clear hTw) | (revert hTw; intro _))))
        | ((with_reducible refine two_intro ?_ ?_) <;> intro hTw <;> first | (exact Bool.noConfusion hTw) | ((first | (guard_hyp hTw : true = true; clear hTw) | (guard_hyp hTw : false = false; clear hTw) | (revert hTw; intro _))))
        | ((with_reducible refine And.intro ?_ ?_); (focus (first | omega | rfl | decide | grind)))
        | (with_reducible refine aw_block ?_)
        | (with_reducible refine aw_scope ?_)
        | ((first
            | ((with_reducible refine aw_regionA T_ok ?_ ?_); (focus kernel_rfl))
            | ((with_reducible refine aw_drawnA T_ok ?_ ?_ ?_ ?_); (focus kernel_rfl); (focus kernel_rfl); (focus (decide +kernel)))
            | ((with_reducible refine aw_drawnF T_ok ?_ ?_ ?_ ?_); (focus kernel_rfl); (focus kernel_rfl); (focus (decide +kernel)))
            | ((with_reducible refine callK_intro (h1) (by with_unfolding_all rfl) ?_ ?_); (focus kernel_rfl))
            | ((with_reducible refine callI_spec (h1) (by with_unfolding_all rfl) ?_ ?_ ?_); (focus kernel_rfl); (focus kernel_rfl))
            | ((with_reducible refine callK_intro (h2) (by with_unfolding_all rfl) ?_ ?_); (focus kernel_rfl))
            | ((with_reducible refine callI_spec (h2) (by with_unfolding_all rfl) ?_ ?_ ?_); (focus kernel_rfl); (focus kernel_rfl))
            | (with_reducible refine aw_label ?_)
            | ((with_reducible refine aw_rfM ?_ ?_); (focus kernel_rfl))
            | (with_reducible refine aw_skip ?_)
            | (with_reducible refine aw_exit ?_)
            | ((with_reducible refine aw_condM ?_ ?_); (focus kernel_rfl))
            | (with_reducible refine aw_ret ?_)
          ); simp only [↓avP, avQ, if_true, if_false, forall_const, beq_self_eq_true, eq_self, ne_eq, implies_true, reduceIte, Nat.reduceEqDiff, Nat.reduceAdd, Nat.reduceSub, Int.reduceToNat, Nat.reduceLeDiff, Nat.reduceLT, reduceCtorEq, Int.reduceEq, retQ, retL, resV, RetV, RetOk, SubL, intD_B, lotD_B, flowD_B, snocI, snocL, ty_3, ty_5, ty_27, ty_4, ty_24, ty_43, ty_22, ty_33, ← List.map_take, hd2, hq, ← hx]; try simp (disch := omega) only [av_w, av_t1, av_tp, Int.toNat_natCast]))
      refine ⟨i + 1, by omega, by dsimp only; omega, wk_of [(0, some 0)] rfl rfl ?_ ?_⟩
      · simp only [wkT, wkB, wkB1, subV, subVs, subD, subB, lkN_n, lkN_c, lkT_n, lkT_c, lkB_n, lkB_c, if_true, if_false, reduceIte, Nat.reduceEqDiff, true_and, and_true, and_self, inT, ofA]
        (repeat' (first | exact trivial | rfl | exact rfl | exact subVs_d _ _ | exact subVs_dm _ _ | exact subD_refl _ | refine And.intro ?_ ?_))
      · simp only [wkT, wkB, wkB1, subV, subVs, subD, subB, lkN_n, lkN_c, lkT_n, lkT_c, lkB_n, lkB_c, if_true, if_false, reduceIte, Nat.reduceEqDiff, true_and, and_true, and_self, inT, ofA]
        (repeat' (first | exact trivial | rfl | exact rfl | exact subVs_d _ _ | exact subVs_dm _ _ | exact subD_refl _ | refine And.intro ?_ ?_))
    obtain rfl : i = a.length := by omega
    have hd2 := ged (Nat.le_refl a.length)
    repeat' (first
      | (with_reducible refine aw_seq ?_)
      | ((with_reducible refine twoG_intro ?_ ?_) <;> intro hTw <;> first | (exact Bool.noConfusion hTw) | ((try simp only [hTw, Bool.not_true, Bool.not_false, Bool.true_and, Bool.false_and, Bool.and_true, Bool.and_false, Bool.true_or, Bool.false_or, Bool.or_true, Bool.or_false]); (first | (guard_hyp hTw : true = true; clear hTw) | (guard_hyp hTw : false = false; clear hTw) | (revert hTw; intro _))))
      | ((with_reducible refine two_intro ?_ ?_) <;> intro hTw <;> first | (exact Bool.noConfusion hTw) | ((first | (guard_hyp hTw : true = true; clear hTw) | (guard_hyp hTw : false = false; clear hTw) | (revert hTw; intro _))))
      | ((with_reducible refine And.intro ?_ ?_); (focus (first | omega | rfl | decide | grind)))
      | (with_reducible refine aw_block ?_)
      | (with_reducible refine aw_scope ?_)
      | ((first
          | ((with_reducible refine aw_regionA T_ok ?_ ?_); (focus kernel_rfl))
          | ((with_reducible refine aw_drawnA T_ok ?_ ?_ ?_ ?_); (focus kernel_rfl); (focus kernel_rfl); (focus (decide +kernel)))
          | ((with_reducible refine aw_drawnF T_ok ?_ ?_ ?_ ?_); (focus kernel_rfl); (focus kernel_rfl); (focus (decide +kernel)))
          | (with_reducible refine aw_label ?_)
          | ((with_reducible refine aw_rfM ?_ ?_); (focus kernel_rfl))
          | (with_reducible refine aw_skip ?_)
          | (with_reducible refine aw_exit ?_)
          | ((with_reducible refine aw_condM ?_ ?_); (focus kernel_rfl))
          | (with_reducible refine aw_ret ?_)
        ); simp only [↓avP, avQ, if_true, if_false, forall_const, beq_self_eq_true, eq_self, ne_eq, implies_true, reduceIte, Nat.reduceEqDiff, Nat.reduceAdd, Nat.reduceSub, Int.reduceToNat, Nat.reduceLeDiff, Nat.reduceLT, reduceCtorEq, Int.reduceEq, retQ, retL, resV, RetV, RetOk, SubL, intD_B, lotD_B, flowD_B, snocI, snocL, ty_3, ty_5, ty_27, ty_4, ty_24, ty_43, ty_22, ty_33, ← List.map_take, hd2, ← hx]; try simp (disch := omega) only [av_w, av_t1, av_tp, Int.toNat_natCast]))
    refine aw_loopI (fun i : Nat => ⟨[(8, .d (.sl 1 (intD 0) (b.map intD))), (10, vI (befF f k)), (122, vI x.inn.length), (123, vI i)], [], 1⟩)
      (fun i => i ≤ x.inn.length) (fun i => x.inn.length - i) 0 (Nat.zero_le _) (wk_of [] rfl rfl ?_ ?_) ?_
    · simp only [wkT, wkB, wkB1, subV, subVs, subD, subB, lkN_n, lkN_c, lkT_n, lkT_c, lkB_n, lkB_c, if_true, if_false, reduceIte, Nat.reduceEqDiff, true_and, and_true, and_self, inT, ofA]
      (repeat' (first | exact trivial | rfl | exact rfl | exact subVs_d _ _ | exact subVs_dm _ _ | exact subD_refl _ | refine And.intro ?_ ?_))
    · simp only [wkT, wkB, wkB1, subV, subVs, subD, subB, lkN_n, lkN_c, lkT_n, lkT_c, lkB_n, lkB_c, if_true, if_false, reduceIte, Nat.reduceEqDiff, true_and, and_true, and_self, inT, ofA]
      (repeat' (first | exact trivial | rfl | exact rfl | exact subVs_d _ _ | exact subVs_dm _ _ | exact subD_refl _ | refine And.intro ?_ ?_))
    intro i hi2
    rcases Nat.lt_or_ge i x.inn.length with hil | hig
    · have hd3 := ltd hil
      have h1 := hH (befF f k + i)
      have hq : decide (befF f k + i ∈ b) = true := decide_eq_true (hnew hil)
      repeat' (first
        | (with_reducible refine aw_seq ?_)
        | ((with_reducible refine twoG_intro ?_ ?_) <;> intro hTw <;> first | (exact Bool.noConfusion hTw) | ((try simp only [hTw, Bool.not_true, Bool.not_false, Bool.true_and, Bool.false_and, Bool.and_true, Bool.and_false, Bool.true_or, Bool.false_or, Bool.or_true, Bool.or_false]); (first | (guard_hyp hTw : true = true; clear hTw) | (guard_hyp hTw : false = false; clear hTw) | (revert hTw; intro _))))
        | ((with_reducible refine two_intro ?_ ?_) <;> intro hTw <;> first | (exact Bool.noConfusion hTw) | ((first | (guard_hyp hTw : true = true; clear hTw) | (guard_hyp hTw : false = false; clear hTw) | (revert hTw; intro _))))
        | ((with_reducible refine And.intro ?_ ?_); (focus (first | omega | rfl | decide | grind)))
        | (with_reducible refine aw_block ?_)
        | (with_reducible refine aw_scope ?_)
        | ((first
            | ((with_reducible refine aw_regionA T_ok ?_ ?_); (focus kernel_rfl))
            | ((with_reducible refine aw_drawnA T_ok ?_ ?_ ?_ ?_); (focus kernel_rfl); (focus kernel_rfl); (focus (decide +kernel)))
            | ((with_reducible refine aw_drawnF T_ok ?_ ?_ ?_ ?_); (focus kernel_rfl); (focus kernel_rfl); (focus (decide +kernel)))
            | ((with_reducible refine callK_intro (h1) (by with_unfolding_all rfl) ?_ ?_); (focus kernel_rfl))
            | ((with_reducible refine callI_spec (h1) (by with_unfolding_all rfl) ?_ ?_ ?_); (focus kernel_rfl); (focus kernel_rfl))
            | (with_reducible refine aw_label ?_)
            | ((with_reducible refine aw_rfM ?_ ?_); (focus kernel_rfl))
            | (with_reducible refine aw_skip ?_)
            | (with_reducible refine aw_exit ?_)
            | ((with_reducible refine aw_condM ?_ ?_); (focus kernel_rfl))
            | (with_reducible refine aw_ret ?_)
          ); simp only [↓avP, avQ, if_true, if_false, forall_const, beq_self_eq_true, eq_self, ne_eq, implies_true, reduceIte, Nat.reduceEqDiff, Nat.reduceAdd, Nat.reduceSub, Int.reduceToNat, Nat.reduceLeDiff, Nat.reduceLT, reduceCtorEq, Int.reduceEq, retQ, retL, resV, RetV, RetOk, SubL, intD_B, lotD_B, flowD_B, snocI, snocL, ty_3, ty_5, ty_27, ty_4, ty_24, ty_43, ty_22, ty_33, ← List.map_take, hd3, hq]; try simp (disch := omega) only [av_w, av_t1, av_tp, Int.toNat_natCast]))
      refine ⟨i + 1, by omega, by dsimp only; omega, wk_of [] rfl rfl ?_ ?_⟩
      · simp only [wkT, wkB, wkB1, subV, subVs, subD, subB, lkN_n, lkN_c, lkT_n, lkT_c, lkB_n, lkB_c, if_true, if_false, reduceIte, Nat.reduceEqDiff, true_and, and_true, and_self, inT, ofA]
        (repeat' (first | exact trivial | rfl | exact rfl | exact subVs_d _ _ | exact subVs_dm _ _ | exact subD_refl _ | refine And.intro ?_ ?_))
      · simp only [wkT, wkB, wkB1, subV, subVs, subD, subB, lkN_n, lkN_c, lkT_n, lkT_c, lkB_n, lkB_c, if_true, if_false, reduceIte, Nat.reduceEqDiff, true_and, and_true, and_self, inT, ofA]
        (repeat' (first | exact trivial | rfl | exact rfl | exact subVs_d _ _ | exact subVs_dm _ _ | exact subD_refl _ | refine And.intro ?_ ?_))
    obtain rfl : i = x.inn.length := by omega
    have hd3 := ged (Nat.le_refl x.inn.length)
    repeat' (first
      | (with_reducible refine aw_seq ?_)
      | ((with_reducible refine twoG_intro ?_ ?_) <;> intro hTw <;> first | (exact Bool.noConfusion hTw) | ((try simp only [hTw, Bool.not_true, Bool.not_false, Bool.true_and, Bool.false_and, Bool.and_true, Bool.and_false, Bool.true_or, Bool.false_or, Bool.or_true, Bool.or_false]); (first | (guard_hyp hTw : true = true; clear hTw) | (guard_hyp hTw : false = false; clear hTw) | (revert hTw; intro _))))
      | ((with_reducible refine two_intro ?_ ?_) <;> intro hTw <;> first | (exact Bool.noConfusion hTw) | ((first | (guard_hyp hTw : true = true; clear hTw) | (guard_hyp hTw : false = false; clear hTw) | (revert hTw; intro _))))
      | ((with_reducible refine And.intro ?_ ?_); (focus (first | omega | rfl | decide | grind)))
      | (with_reducible refine aw_block ?_)
      | (with_reducible refine aw_scope ?_)
      | ((first
          | ((with_reducible refine aw_regionA T_ok ?_ ?_); (focus kernel_rfl))
          | ((with_reducible refine aw_drawnA T_ok ?_ ?_ ?_ ?_); (focus kernel_rfl); (focus kernel_rfl); (focus (decide +kernel)))
          | ((with_reducible refine aw_drawnF T_ok ?_ ?_ ?_ ?_); (focus kernel_rfl); (focus kernel_rfl); (focus (decide +kernel)))
          | (with_reducible refine aw_label ?_)
          | ((with_reducible refine aw_rfM ?_ ?_); (focus kernel_rfl))
          | (with_reducible refine aw_skip ?_)
          | (with_reducible refine aw_exit ?_)
          | ((with_reducible refine aw_condM ?_ ?_); (focus kernel_rfl))
          | (with_reducible refine aw_ret ?_)
        ); simp only [↓avP, avQ, if_true, if_false, forall_const, beq_self_eq_true, eq_self, ne_eq, implies_true, reduceIte, Nat.reduceEqDiff, Nat.reduceAdd, Nat.reduceSub, Int.reduceToNat, Nat.reduceLeDiff, Nat.reduceLT, reduceCtorEq, Int.reduceEq, retQ, retL, resV, RetV, RetOk, SubL, intD_B, lotD_B, flowD_B, snocI, snocL, ty_3, ty_5, ty_27, ty_4, ty_24, ty_43, ty_22, ty_33, ← List.map_take, hd3]; try simp (disch := omega) only [av_w, av_t1, av_tp, Int.toNat_natCast]))
    exact Sub.refl _
end Go.Proofs.Ytfndjciojljkfaa
