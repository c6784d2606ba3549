import Derived.Test.YtfndjciojljkfaaRows
import Derived.WalkKit
import Derived.ProofKit
import Derived.OpenShut
import Derived.Carry
import Derived.ChangeSlices
import Derived.Test.YtfndjciojljkfaaFB1
import Derived.SizedLaws
import Derived.Test.YtfndjciojljkfaaFB14
import Derived.Test.YtfndjciojljkfaaFB2
namespace Go.Proofs.Ytfndjciojljkfaa
set_option linter.unusedSimpArgs false
set_option linter.unusedVariables false
open Go.ChangeShapes Go.WideShapes Go.ChangeAt Go.RowKit

theorem trodAll_below {H : Type} {enc : TypeId × Value → H} {P : Program} (hl : laidOutB P = true) {W W' : World} (hb : Below W.heap.size W W') {sp : Nat → Bool} :
    ∀ {ts : List TypeId} {vs : List Value} {ds : List (DataW H)} {ps : List MemPlace}, (∀ t ∈ ts, P.readableRec t = true ∧ t < P.types.size) → (∀ x ∈ ps, x.block < W.heap.size) → (∀ x ∈ ps, sp x.block = true) →
      DataW.TrodAll enc P W 0 (fun _ => true) true ts vs ds ps → DataW.TrodAll enc P W' 0 sp true ts vs ds ps
  | [], _, _, _, _, _, _, h => by
    obtain ⟨rfl, rfl, rfl⟩ := trodAll_nil h
    exact rfl
  | t :: ts, _, _, _, hr, hlt, hsp, h => by
    obtain ⟨v, vs1, d, ds1, a, b, rfl, rfl, rfl, h1, h2⟩ := trodAll_cons h
    refine ⟨a, b, ?_, trodAll_below hl hb (fun u hu => hr u (List.mem_cons_of_mem _ hu)) (fun x hx => hlt x (by simp [hx])) (fun x hx => hsp x (by simp [hx])) h2, rfl⟩
    exact WideElems.Trod_stays hl (hr t (by simp)).1 (hr t (by simp)).2 h1 (fun x hx => hb.same (hlt x (by simp [hx]))) (fun x hx => hsp x (by simp [hx]))

/-- the post of a law that answers true and has only read -/
theorem post_read {H : Type} {enc : TypeId × Value → H} {P : Program} {f : Func} {s : ChangeSpec} {fresh handsOn again : Bool} {W W' : World} {args : Array Value} {ds : List (DataW H)} {before : List MemPlace} {tb : TypeId}
    (hl : laidOutB P = true) (hs : s.vars = []) (hr : f.resultTypes = #[tb]) (htb : P.underlying tb = some .bool)
    (hts : (f.params.toList.all fun t => P.readableRec t && decide (t < P.types.size)) = true)
    (hfn : s.fn H (ds ++ []) = { results := [.lit (.bool true)], args := ds })
    (hW : DataW.Whole enc P f.params.toList s.vars false W args.toList ds [] before) (hb : Below W.heap.size W W') :
    s.post enc P f false fresh handsOn again W args (.bool true) W' := by
  have hW0 := hW
  have hlt : ∀ p ∈ before, p.block < W.heap.size := fun p hp => hW.lt p hp
  have hold : ∀ p ∈ before, (fun b => decide (b < W.heap.size)) p.block = true := fun p hp => by simpa using hlt p hp
  rw [hs] at hW
  obtain ⟨p, q, hA, hV, rfl, hz, hn⟩ := hW
  obtain ⟨_, rfl⟩ := trodVars_none hV
  rw [List.append_nil] at hlt hold hz hn
  have hts' : ∀ t ∈ f.params.toList, P.readableRec t = true ∧ t < P.types.size := fun t ht => by
    have := List.all_eq_true.1 hts t ht
    simpa using this
  have hargs : ∀ sp : Nat → Bool, (∀ x ∈ p, sp x.block = true) → DataW.TrodAll enc P W' 0 sp true f.params.toList args.toList (s.fn H (ds ++ [])).args p := fun sp hsp => by
    rw [hfn]
    exact trodAll_below hl hb hts' hlt hsp hA
  have hres : ∀ (b : Nat) (sp : Nat → Bool) (hd : Bool), DataW.TrodAll enc P W' b sp hd f.resultTypes.toList ((Value.bool true).resultList f.resultTypes.size) (s.fn H (ds ++ [])).results [] := fun b sp hd => by
    rw [hfn, hr]
    exact trodAll_cons_mk (shut_bool htb _) trodAll_mk0
  have hvars : ∀ sp : Nat → Bool, DataW.TrodVars enc P W' sp s.vars (s.fn H (ds ++ [])).vars [] := fun sp => by
    rw [hfn, hs]
    exact rfl
  have hok : ∀ (j : Nat) (t : TypeId) (r : Value), f.resultTypes[j]? = some t → ((Value.bool true).resultList f.resultTypes.size)[j]? = some r → Value.okWide P W' .any 0 t r :=
    ok_one hr rfl (okWide_bool_mk htb _)
  refine ⟨ds, [], p ++ [], [], p, [], hW0, hres _ _ _, hargs _ hold, hvars _, World.keptBut_mono (fun x hx => ⟨hx, ?_⟩) (hb.frame (· ∈ p ++ [])), fun _ => ?_⟩
  · simpa using hx
  · refine ⟨hok, _, _, ([] ++ p) ++ [], ⟨[] ++ p, [], trodAll_append (hargs _ (fun _ _ => rfl)) (hres _ _ _), hvars _, rfl, ?_, ?_⟩, ?_⟩
    · intro b off hp
      have hp' : MemPlace.cell b off ∈ p := by simpa using hp
      rw [hb.frozen (p := ⟨b, off, none⟩) (hlt _ hp')]
      exact hz b off hp'
    · intro ha
      cases ha
    · intro x hx _
      simpa using hx

end Go.Proofs.Ytfndjciojljkfaa


namespace Go.Proofs.Ytfndjciojljkfaa
set_option linter.unusedSimpArgs false
open Go.ChangeShapes Go.WideShapes Go.ChangeAt Go.RowKit
set_option linter.unusedVariables false

def Opens {α : Type} (P : Program) (t : TypeId) (R : RepT α) : Prop :=
  ∀ {H : Type} {enc : TypeId × Value → H} {W : World} {n : Nat} {cs : List Value} {x : DataW H × List MemPlace}, DataW.trod enc P W 0 (fun _ => true) true n t cs = some x → (∀ k ∈ x.1.weights P t, k ≤ reachBytes) → ∃ y : α, R (Now W) W y cs
section
variable {α β : Type} {P : Program} {t e : TypeId} {sz : Nat} {R : RepT α}
theorem opens_int {k : IntKind} (hu : P.underlying t = some (.int k)) : Opens P t (RI k) := fun h _ => by
  obtain ⟨n, e, _, hw⟩ := DataW.trod_int hu h
  exact ⟨n, e, hw⟩
theorem opens_bool (hu : P.underlying t = some .bool) : Opens P t RB := fun h _ => by
  obtain ⟨b, e, _⟩ := DataW.trod_bool hu h
  exact ⟨b, e⟩
theorem mapM_get {f : Nat → Option Value} : ∀ {l : List Nat} {cs : List Value}, l.mapM f = some cs → cs.length = l.length ∧ ∀ (j : Nat) (u : Value), cs[j]? = some u → ∃ i : Nat, l[j]? = some i ∧ f i = some u
  | [], cs, h => by
    simp at h
    subst h
    exact ⟨rfl, fun j u h => by simp at h⟩
  | i :: l, cs, h => by
    rw [List.mapM_cons] at h
    cases h1 : f i with
    | none => simp [h1] at h
    | some u =>
      cases h2 : l.mapM f with
      | none => simp [h1, h2] at h
      | some us =>
        simp [h1, h2] at h
        subst h
        obtain ⟨hl, hg⟩ := mapM_get h2
        refine ⟨by simp [hl], fun j v hv => ?_⟩
        cases j with
        | zero => simp at hv; subst hv; exact ⟨i, rfl, h1⟩
        | succ j => simpa using hg j v (by simpa using hv)
theorem cells_get {w : World} {a : Addr} {n : Nat} {cs : List Value} (h : w.cells? 0 a n = some cs) : cs.length = n ∧ ∀ (j : Nat) (u : Value), cs[j]? = some u → w.cell? (a.add j) = some u := by
  unfold World.cells? at h
  rw [if_pos (Nat.zero_le _)] at h
  obtain ⟨hl, hg⟩ := mapM_get h
  refine ⟨by simpa using hl, fun j u hu => ?_⟩
  obtain ⟨i, hi, hf⟩ := hg j u hu
  have : i = j := by
    have hj : j < n := by have := (List.getElem?_eq_some_iff.1 hu).1; rw [hl] at this; simpa using this
    rw [List.getElem?_range hj] at hi
    exact (Option.some.inj hi).symm
  rw [this] at hf
  exact hf
theorem weights_all {H : Type} {d : DataW H} {k : Nat} : ∀ {l : List (DataW H)}, d ∈ l → k ∈ d.weights P e → k ∈ DataW.weightsAll P e l
  | [], h, _ => by cases h
  | x :: l, h, hk => by
    simp only [DataW.weightsAll, List.mem_append]
    rcases List.mem_cons.1 h with rfl | h
    · exact .inl hk
    · exact .inr (weights_all h hk)
theorem pick_list {Q : Nat → α → Prop} : ∀ n, (∀ i, i < n → ∃ y, Q i y) → ∃ l : List α, l.length = n ∧ ∀ i (h : i < l.length), Q i l[i]
  | 0, _ => ⟨[], rfl, fun i h => by cases h⟩
  | n + 1, h => by
    obtain ⟨l, hl, hq⟩ := pick_list n (fun i hi => h i (by omega))
    obtain ⟨y, hy⟩ := h n (by omega)
    refine ⟨l ++ [y], by simp [hl], fun i hi => ?_⟩
    by_cases hi' : i < l.length
    · rw [List.getElem_append_left hi']; exact hq i hi'
    · have : i = l.length := by simp at hi; omega
      subst this
      simp [hl, hy]
theorem opens_slice (g : Good sz R) (ho : Opens P e R) (hu : P.underlying t = some (.slice e)) (hc : P.cellsOf e = sz) (hpos : 0 < sz) (hb : 1 ≤ P.bytesOf e) : Opens P t (RS sz R) := by
  intro H enc W n cs x h hw
  rcases DataW.trod_slice hu h with ⟨rfl, _⟩ | ⟨a, len, cap, elems, rest, m, rfl, rfl, rfl, _, hl, _, hlen, hel, _, _⟩
  · exact ⟨[], none, 0, rfl, Nat.le_refl _, by simp, RRow.nil _⟩
  · simp only [DataW.weights, hu] at hw
    have hsz := hw _ (List.mem_cons_self ..)
    rw [List.length_map, List.length_map] at hsz
    have hbig : elems.length ≤ 140737488351232 := by
      unfold reachBytes at hsz
      have := Nat.mul_le_mul_left (elems.length + rest.length) hb
      omega
    rw [hc] at hel
    by_cases hl0 : len = 0
    · subst hl0
      exact ⟨[], some a, cap, rfl, by simp, by simp, RRow.nil _⟩
    have hs : a.spot = none := by
      have h0 := hel 0 (by omega)
      rw [List.getElem?_eq_getElem (by omega)] at h0
      cases hcs : W.cells? 0 (a.add (0 * sz)) sz with
      | none => rw [hcs] at h0; cases h0
      | some cs =>
        obtain ⟨hl2, hg⟩ := cells_get hcs
        have h9 := World.cell?_spot (hg 0 cs[0] (by simp))
        simpa [Addr.add] using h9
    obtain ⟨b, off, spot⟩ := a
    subst hs
    have key : ∀ i, i < len → ∃ y : α, ∃ cs, Now W b ∧ R (Now W) W y cs ∧ ∀ j u, cs[j]? = some u → W.cell? ⟨b, off + i * sz + j, none⟩ = some u := by
      intro i hi
      have h0 := hel i hi
      have he : elems[i]? = some (elems[i]'(by omega)) := List.getElem?_eq_getElem (by omega)
      rw [he] at h0
      cases hcs : W.cells? 0 (Addr.add ⟨b, off, none⟩ (i * sz)) sz with
      | none => rw [hcs] at h0; cases h0
      | some cs =>
        rw [hcs, Option.bind_some] at h0
        obtain ⟨y, hy⟩ := ho h0 (fun k hk => hw k (by
          refine List.mem_cons_of_mem _ (List.mem_append.2 (.inl ?_))
          exact weights_all (List.mem_map.2 ⟨_, List.getElem_mem (by omega), rfl⟩) hk))
        obtain ⟨hl2, hg⟩ := cells_get hcs
        have hc0 := hg 0 cs[0] (by simp)
        refine ⟨y, cs, ?_, hy, fun j u hu => ?_⟩
        · have := World.block_lt_of_cell? _ _ hc0
          rw [add_plain, add_plain] at this
          exact this
        · have := hg j u hu
          rw [add_plain, add_plain] at this
          exact this
    obtain ⟨l, hll, hq⟩ := pick_list len key
    refine ⟨l, some ⟨b, off, none⟩, cap, by rw [hll], by rw [hll]; exact hl, by rw [hll, ← hlen]; exact hbig, fun i hi => ?_⟩
    obtain ⟨cs, h1, h2, h3⟩ := hq i hi
    exact ⟨b, off, cs, rfl, h1, h2, h3⟩

/-- a struct's fields from the one at offset o on -/
def OpensL {γ : Type} (P : Program) (l : List Field) (o : Nat) (T : RepT γ) : Prop :=
  ∀ {H : Type} {enc : TypeId × Value → H} {W : World} {n : Nat} {cs : List Value} {xs : List (DataW H × List MemPlace)}, xs.length = l.length → (cs.length + o = (l.map fun f => P.cellsOf f.type).foldl (· + ·) o) →
    (∀ (i : Nat) (f : Field), l[i]? = some f → o ≤ f.offset ∧ DataW.trod enc P W 0 (fun _ => true) true n f.type ((cs.drop (f.offset - o)).take (P.cellsOf f.type)) = xs[i]?) →
    (∀ (i : Nat) (f : Field) (x : DataW H × List MemPlace), l[i]? = some f → xs[i]? = some x → ∀ k ∈ x.1.weights P f.type, k ≤ reachBytes) → ∃ y : γ, T (Now W) W y cs
def RNil : RepT Unit := fun _ _ _ cs => cs = []
theorem opensL_nil {o : Nat} : OpensL P [] o RNil := fun hx hl _ _ => by
  simp at hl
  exact ⟨(), hl⟩
theorem foldl_add (l : List Nat) (o : Nat) : l.foldl (· + ·) o = o + l.foldl (· + ·) 0 := by
  induction l generalizing o with
  | nil => simp
  | cons x l ih => rw [List.foldl_cons, List.foldl_cons, ih (o + x), ih (0 + x)]; omega
theorem opensL_cons {f : Field} {l : List Field} {o s1 : Nat} {S : RepT β} (g : Good s1 R) (ho : Opens P f.type R) (hs : P.cellsOf f.type = s1) (hof : f.offset = o) (hall : ∀ f' ∈ l, o + s1 ≤ f'.offset) (hl : OpensL P l (o + s1) S) : OpensL P (f :: l) o (RP R S) := by
  intro H enc W n cs xs hx hlen hel hw
  rw [List.map_cons, List.foldl_cons, foldl_add, hs] at hlen
  match xs, hx with
  | x :: xs, hx =>
    have h0 := (hel 0 f rfl).2
    rw [hof, Nat.sub_self, List.drop_zero, hs] at h0
    obtain ⟨y, hy⟩ := ho h0 (hw 0 f x rfl rfl)
    obtain ⟨z, hz⟩ := hl (cs := cs.drop s1) (xs := xs) (n := n) (enc := enc) (by simpa using hx) (by rw [List.length_drop, foldl_add]; omega) (fun i f' hf => by
      have h1 := hel (i + 1) f' (by simpa using hf)
      have h2 := hall f' (List.mem_of_getElem? hf)
      refine ⟨h2, ?_⟩
      have h3 := h1.2
      rw [List.drop_drop, show s1 + (f'.offset - (o + s1)) = f'.offset - o by omega]
      simpa using h3) (fun i f' x' hf hx' => hw (i + 1) f' x' (by simpa using hf) (by simpa using hx'))
    exact ⟨(y, z), cs.take s1, cs.drop s1, (List.take_append_drop ..).symm, hy, hz⟩
theorem opens_struct {fs : Array Field} {γ : Type} {T : RepT γ} (hu : P.underlying t = some (.struct fs)) (hc : P.cellsOf t = (fs.toList.map fun f => P.cellsOf f.type).foldl (· + ·) 0) (hT : OpensL P fs.toList 0 T) : Opens P t T := by
  intro H enc W n cs x h hw
  obtain ⟨xs, m, rfl, rfl, hl, hlen, hf⟩ := DataW.trod_struct hu h
  refine hT (xs := xs) (n := m) (enc := enc) (by simpa using hlen) (by rw [hl, hc]; rfl) (fun i f hi => ⟨Nat.zero_le _, by simpa using hf i f (by simpa using hi)⟩) (fun i f x hi hx k hk => hw k ?_)
  simp only [DataW.weights, hu]
  exact DataW.weights_mem_each (by rw [List.getElem?_map, hi]; rfl) (by rw [List.getElem?_map, hx]; rfl) k hk
theorem opens_map {γ : Type} {T : RepT γ} {f : α → γ} (h : Opens P t R) (hm : ∀ {F w x cs}, R F w x cs → T F w (f x) cs) : Opens P t T := fun h1 h2 => by
  obtain ⟨y, hy⟩ := h h1 h2
  exact ⟨f y, hm hy⟩
theorem sized {H : Type} {ts : List TypeId} {ds : List (DataW H)} (h : (DataW.weightsEach P ts ds).all (· ≤ reachBytes) = true) {j : Nat} {t : TypeId} {d : DataW H} (ht : ts[j]? = some t) (hd : ds[j]? = some d) : ∀ k ∈ d.weights P t, k ≤ reachBytes := fun k hk => by
  have := List.all_eq_true.1 h _ (DataW.weights_mem_each ht hd k hk)
  simpa using this
section
variable {H : Type} {enc : TypeId × Value → H} {W : World} {base : Nat} {v : Value} {d : DataW H} {ps : List MemPlace}
theorem open_struct {fs : Array Field} (ho : Opens P t R) (hu : P.underlying t = some (.struct fs)) (hok : Value.okWide P W .any base t v) (h : DataW.Trod enc P W 0 (fun _ => true) true t v d ps) (hw : ∀ k ∈ d.weights P t, k ≤ reachBytes) :
    ∃ x cs, v = .agg cs ∧ R (Now W) W x cs.toList := by
  simp only [Value.okWide, hu] at hok
  obtain ⟨cs, rfl, _⟩ := hok
  obtain ⟨fuel, hf⟩ := h
  obtain ⟨x, hx⟩ := ho hf hw
  exact ⟨x, cs, rfl, hx⟩
end
end
end Go.Proofs.Ytfndjciojljkfaa


namespace Go.Proofs.Ytfndjciojljkfaa
set_option linter.unusedSimpArgs false
open Go.ChangeShapes Go.WideShapes Go.ChangeAt Go.RowKit
set_option linter.unusedVariables false
abbrev ftB (F : Nat → Prop) : Ft := ⟨fun b _ => F b, F⟩
/-- a datum by its data -/
def RE {α : Type} (enc : α → List D) (ok : α → Prop) : RepT α := fun F w x cs => ok x ∧ RDL (ftB F) w (enc x) cs ∧ ∀ u ∈ cs, u.oneCell' = true
section
variable {α β : Type} {P : Program} {t e : TypeId} {sz : Nat} {enc : α → List D} {ok : α → Prop} {enc2 : β → List D} {ok2 : β → Prop} {F : Nat → Prop} {w : World}
theorem good_re (hl : ∀ x, (enc x).length = sz) : Good sz (RE enc ok) :=
  ⟨fun {F F' w w'} hF hk {x cs} h => ⟨h.1, RDL.mono (F := ftB F) (G := ftB F') ⟨fun b o hb => hF b hb, fun b hb => hF b hb⟩ (Kp.of_blocks (F := ftB F) (fun x o hx => hk x hx) (fun x hx => hk x hx)) _ _ h.2.1, h.2.2⟩,
   fun {F w x cs} h => by rw [RDL.len h.2.1, hl], fun {F w x cs} h => h.2.2⟩
theorem ore_int {k : IntKind} (hu : P.underlying t = some (.int k)) : Opens P t (RE (fun n : Int => [.c (.int k n)]) (fun n => (Lit.int k n).wf = true)) :=
  opens_map (f := fun n : Int => n) (opens_int hu) fun {F w x cs} h => ⟨h.2, by rw [h.1]; exact ⟨_, _, rfl, rfl, rfl⟩, by rw [h.1]; simp [Value.oneCell']⟩
theorem ore_bool (hu : P.underlying t = some .bool) : Opens P t (RE (fun b : Bool => [.c (.bool b)]) (fun _ => True)) :=
  opens_map (f := fun b : Bool => b) (opens_bool hu) fun {F w x cs} h => ⟨trivial, by rw [h]; exact ⟨_, _, rfl, rfl, rfl⟩, by rw [h]; simp [Value.oneCell']⟩
theorem rep_re {p : α × β} {cs : List Value} (h : RP (RE enc ok) (RE enc2 ok2) F w p cs) : RE (fun p : α × β => enc p.1 ++ enc2 p.2) (fun p => ok p.1 ∧ ok2 p.2) F w p cs := by
  obtain ⟨c1, c2, rfl, h1, h2⟩ := h
  refine ⟨⟨h1.1, h2.1⟩, RDL.append h1.2.1 h2.2.1, fun u hu => ?_⟩
  rcases List.mem_append.1 hu with hu | hu
  · exact h1.2.2 u hu
  · exact h2.2.2 u hu
theorem opensL_map {γ δ : Type} {l : List Field} {o : Nat} {T : RepT γ} {U : RepT δ} {f : γ → δ} (h : OpensL P l o T) (hm : ∀ {F w x cs}, T F w x cs → U F w (f x) cs) : OpensL P l o U := fun h1 h2 h3 h4 => by
  obtain ⟨y, hy⟩ := h h1 h2 h3 h4
  exact ⟨f y, hm hy⟩
theorem oreL_nil {o : Nat} : OpensL P [] o (RE (fun _ : Unit => []) (fun _ => True)) :=
  opensL_map (f := fun u : Unit => u) opensL_nil fun {F w x cs} h => ⟨trivial, h, by rw [h]; simp⟩
theorem oreL_cons {f : Field} {l : List Field} {o s1 : Nat} (hl1 : ∀ x, (enc x).length = s1) (ho : Opens P f.type (RE enc ok)) (hs : P.cellsOf f.type = s1) (hof : f.offset = o) (hall : ∀ f' ∈ l, o + s1 ≤ f'.offset) (hl : OpensL P l (o + s1) (RE enc2 ok2)) :
    OpensL P (f :: l) o (RE (fun p : α × β => enc p.1 ++ enc2 p.2) (fun p => ok p.1 ∧ ok2 p.2)) :=
  opensL_map (f := fun p : α × β => p) (opensL_cons (good_re hl1) ho hs hof hall hl) fun {F w x cs} h => rep_re h
/-- a field of one cell -/
theorem oreL_1 {f : Field} {l : List Field} {o : Nat} (ho : Opens P f.type (RE enc ok)) (hl1 : ∀ x, (enc x).length = 1) (hs : P.cellsOf f.type = 1) (hof : f.offset = o) (hall : ∀ f' ∈ l, o + 1 ≤ f'.offset) (hl : OpensL P l (o + 1) (RE enc2 ok2)) :
    OpensL P (f :: l) o (RE (fun p : α × β => enc p.1 ++ enc2 p.2) (fun p => ok p.1 ∧ ok2 p.2)) := oreL_cons hl1 ho hs hof hall hl
theorem ore_map {f : α → β} (h : Opens P t (RE enc ok)) (he : ∀ x, enc2 (f x) = enc x) (hok : ∀ x, ok x → ok2 (f x)) : Opens P t (RE enc2 ok2) :=
  opens_map (f := f) h fun {F w x cs} h => ⟨hok _ h.1, by rw [he]; exact h.2.1, h.2.2⟩
theorem rr_of {l : List α} {a : Option Addr} (hl : ∀ x, (enc x).length = sz) (h : RRow sz (RE enc ok) F w l a) : RR (ftB F) w sz a (l.map enc) 0 ∧ ∀ x ∈ l, ok x := by
  have key : ∀ (m : List α) (n : Nat), (∀ i (hi : i < m.length), ∃ b off cs, a = some ⟨b, off, none⟩ ∧ F b ∧ RE enc ok F w m[i] cs ∧ ∀ j u, cs[j]? = some u → w.cell? ⟨b, off + (n + i) * sz + j, none⟩ = some u) → RR (ftB F) w sz a (m.map enc) (n * sz) ∧ ∀ x ∈ m, ok x := by
    intro m
    induction m with
    | nil => intro n _; exact ⟨trivial, by simp⟩
    | cons x m ih =>
      intro n h
      obtain ⟨b, off, cs, h1, h2, h3, h4⟩ := h 0 (by simp)
      have h3' : RE enc ok F w x cs := h3
      obtain ⟨k1, k2⟩ := ih (n + 1) (fun i hi => by
        obtain ⟨b', off', cs', g1, g2, g3, g4⟩ := h (i + 1) (by simpa using hi)
        exact ⟨b', off', cs', g1, g2, g3, fun j u hj => by have := g4 j u hj; rw [show n + 1 + i = n + (i + 1) by omega]; exact this⟩)
      refine ⟨⟨⟨b, off, cs, h1, h3'.2.1, by rw [RDL.len h3'.2.1, hl], h3'.2.2, fun j u hj => ⟨h2, ?_⟩⟩, ?_⟩, ?_⟩
      · have := h4 j u hj
        simpa using this
      · rw [Nat.add_mul, Nat.one_mul] at k1
        exact k1
      · intro y hy
        rcases List.mem_cons.1 hy with rfl | hy
        · exact h3'.1
        · exact k2 y hy
  have := key l 0 (fun i hi => by
    obtain ⟨b, off, cs, h1, h2, h3, h4⟩ := h i hi
    exact ⟨b, off, cs, h1, h2, h3, fun j u hj => by rw [Nat.zero_add]; exact h4 j u hj⟩)
  simpa using this
theorem ore_slice (d0 : List D) (hl : ∀ x, (enc x).length = sz) (ho : Opens P e (RE enc ok)) (hu : P.underlying t = some (.slice e)) (hc : P.cellsOf e = sz) (hpos : 0 < sz) (hb : 1 ≤ P.bytesOf e) :
    Opens P t (RE (fun l : List α => [.sl sz d0 (l.map enc)]) (fun l => l.length ≤ 140737488351232 ∧ ∀ x ∈ l, ok x)) :=
  opens_map (f := fun l : List α => l) (opens_slice (good_re hl) ho hu hc hpos hb) fun {F w x cs} h => by
    obtain ⟨a, cap, rfl, h1, h2, h3⟩ := h
    obtain ⟨k1, k2⟩ := rr_of hl h3
    refine ⟨⟨h2, k2⟩, ⟨_, _, rfl, ⟨a, cap, by rw [List.length_map], by simpa using h1, by simpa using h2, k1⟩, rfl⟩, by simp [Value.oneCell']⟩
/-- as a law's arguments -/
abbrev ftN (w : World) : Ft := ftB (Now w)
theorem ftN_lt (w : World) : (ftN w).lt w := ⟨fun _ _ h => h, fun _ h => h⟩
variable {H : Type} {en : TypeId × Value → H} {W : World} {base : Nat} {v : Value} {d : DataW H} {ps : List MemPlace}
theorem arg_int {k : IntKind} (hu : P.underlying t = some (.int k)) (hok : Value.okWide P W .any base t v) (h : DataW.Trod en P W 0 (fun _ => true) true t v d ps) : ∃ n : Int, (Lit.int k n).wf = true ∧ RA (ftN W) W (.one (.c (.int k n))) v := by
  obtain ⟨z, rfl, rfl, rfl, wz⟩ := open_int hu hok h
  exact ⟨z, wz, rfl⟩
theorem arg_row {dd0 : List D} {ok' : List α → Prop} (ho : Opens P t (RE (fun l : List α => [.sl sz dd0 (l.map enc)]) ok')) (hu : P.underlying t = some (.slice e)) (hok : Value.okWide P W .any base t v) (h : DataW.Trod en P W 0 (fun _ => true) true t v d ps) (hw : ∀ k ∈ d.weights P t, k ≤ reachBytes) :
    ∃ l, ok' l ∧ RA (ftN W) W (.one (.sl sz dd0 (l.map enc))) v := by
  obtain ⟨a0, len, cp, rfl⟩ := okWide_slice hu hok
  obtain ⟨fuel, hf⟩ := h
  obtain ⟨l, h1, h2, h3⟩ := ho hf hw
  obtain ⟨u, r, e1, h4, h5⟩ := h2
  simp [Value.cells] at e1
  exact ⟨l, h1, by rw [e1.1]; exact h4⟩
theorem arg_struct {fs : Array Field} (ho : Opens P t (RE enc ok)) (hu : P.underlying t = some (.struct fs)) (hok : Value.okWide P W .any base t v) (h : DataW.Trod en P W 0 (fun _ => true) true t v d ps) (hw : ∀ k ∈ d.weights P t, k ≤ reachBytes) :
    ∃ x, ok x ∧ RA (ftN W) W (.agg (enc x)) v := by
  obtain ⟨x, cs, rfl, h1, h2, h3⟩ := open_struct ho hu hok h hw
  exact ⟨x, h1, cs.toList, by simp, h2, h3⟩
end
end Go.Proofs.Ytfndjciojljkfaa


namespace Go.Proofs.Ytfndjciojljkfaa
set_option linter.unusedSimpArgs false
set_option linter.unusedVariables false
open Go.ChangeShapes Go.WideShapes Go.ChangeAt Go.RowKit
def OkI (l : List Int) : Prop := l.length ≤ 140737488351232 ∧ ∀ x ∈ l, -9223372036854775808 ≤ x ∧ x ≤ 9223372036854775807
theorem wf_int64 {n : Int} (h : (Lit.int .i64 n).wf = true) : -9223372036854775808 ≤ n ∧ n ≤ 9223372036854775807 := by
  exact wf_i64 h
theorem opens_int1 : Opens Try.prog 3 (RE intD (fun n => -9223372036854775808 ≤ n ∧ n ≤ 9223372036854775807)) :=
  ore_map (f := fun n : Int => n) (ore_int Try.underlying3) (by intro x; rfl) (fun x h => wf_int64 h)
theorem opens_ints : Opens Try.prog 27 (RE (fun l : List Int => [.sl 1 (intD 0) (l.map intD)]) OkI) :=
  ore_slice (sz := 1) (intD 0) (by intro x; rfl) opens_int1 Try.underlying27 (by kernel_rfl) (by decide) (Nat.le_of_ble_eq_true (by kernel_rfl))
theorem opens_intss : Opens Try.prog 33 (RE (fun l : List (List Int) => [.sl 1 [.sl 1 (intD 0) []] (l.map fun x => [.sl 1 (intD 0) (x.map intD)])]) (fun l => l.length ≤ 140737488351232 ∧ ∀ x ∈ l, OkI x)) :=
  ore_slice (sz := 1) [.sl 1 (intD 0) []] (by intro x; rfl) opens_ints Try.underlying33 (by kernel_rfl) (by decide) (Nat.le_of_ble_eq_true (by kernel_rfl))
theorem opens_lot : Opens Try.prog 43 (RE lotD OkL) :=
  ore_map (f := fun x : List Int × Bool × List Int × Unit => (⟨x.1, x.2.1, x.2.2.1⟩ : LotP))
    (opens_struct Try.underlying43 (by kernel_rfl)
      (oreL_1 opens_ints (by intro x; rfl) (by kernel_rfl) rfl (by simp) (oreL_1 (ore_bool Try.underlying4) (by intro x; rfl) (by kernel_rfl) rfl (by simp)
      (oreL_1 opens_ints (by intro x; rfl) (by kernel_rfl) rfl (by simp) oreL_nil))))
    (by intro x; rfl) (by rintro x ⟨h1, h2, h3, _⟩; exact ⟨h1.2, h3.2, h1.1, h3.1⟩)
theorem opens_lots : Opens Try.prog 22 (RE (fun l : List LotP => [.sl 3 (lotD default) (l.map lotD)]) (fun l => l.length ≤ 140737488351232 ∧ ∀ x ∈ l, OkL x)) :=
  ore_slice (sz := 3) (lotD default) (by intro x; rfl) opens_lot Try.underlying22 (by kernel_rfl) (by decide) (Nat.le_of_ble_eq_true (by kernel_rfl))
theorem opens_flow : Opens Try.prog 24 (RE flowD OkF) :=
  ore_map (f := fun x : Int × List LotP × Unit => (⟨x.1, x.2.1⟩ : FlowP))
    (opens_struct Try.underlying24 (by kernel_rfl)
      (oreL_1 (ore_int Try.underlying3) (by intro x; rfl) (by kernel_rfl) rfl (by simp) (oreL_1 opens_lots (by intro x; rfl) (by kernel_rfl) rfl (by simp) oreL_nil)))
    (by intro x; rfl) (by rintro x ⟨h1, h2, _⟩; exact ⟨wf_int64 h1, h2.1, h2.2⟩)
end Go.Proofs.Ytfndjciojljkfaa


namespace Go.Proofs.Ytfndjciojljkfaa
set_option linter.unusedSimpArgs false
set_option linter.unusedVariables false
open Go.RowKit
set_option maxRecDepth 100000
set_option maxHeartbeats 4000000
end Go.Proofs.Ytfndjciojljkfaa


namespace Go.Proofs.Ytfndjciojljkfaa
set_option linter.unusedSimpArgs false
set_option linter.unusedVariables false
open Go.RowKit
theorem gone_nd {f : FlowP} (hc : checkF f = 0) : ∀ {k : Nat}, k ≤ f.lots.length → (goneF f k).Nodup
  | 0, _ => by simp [goneF]
  | k + 1, hk => by
    rw [goneF_succ (by omega), List.nodup_append]
    have hg := goodL_at hc (show k < f.lots.length by omega)
    exact ⟨gone_nd hc (by omega), hg.nd, fun a ha b hb e => (hg.fr b hb).2.2 (e ▸ ha)⟩
theorem gone_len {f : FlowP} : ∀ {k : Nat}, k ≤ f.lots.length → ((goneF f k).length : Int) = befF f k - f.senders
  | 0, _ => by simp [goneF, befF]
  | k + 1, hk => by
    rw [goneF_succ (by omega), befF_succ (by omega), List.length_append]
    have := gone_len (f := f) (k := k) (by omega)
    omega
theorem filter_len {α : Type} (p : α → Bool) : ∀ l : List α, (l.filter p).length + (l.filter fun x => !p x).length = l.length
  | [] => rfl
  | x :: l => by
    have := filter_len p l
    rw [List.filter_cons, List.filter_cons]
    cases p x <;> simp <;> omega
/-- the numbers below N that are not in a list -/
theorem rest_len (N : Nat) (G : List Int) (hn : G.Nodup) (hb : ∀ t ∈ G, 0 ≤ t ∧ t < (N : Int)) : (((List.range N).map fun n : Nat => (n : Int)).filter fun s => !decide (s ∈ G)).length + G.length = N := by
  have h1 := filter_len (fun s : Int => decide (s ∈ G)) ((List.range N).map fun n : Nat => (n : Int))
  rw [List.length_map, List.length_range] at h1
  have hnd : (((List.range N).map fun n : Nat => (n : Int)).filter fun s => decide (s ∈ G)).Nodup :=
    List.Nodup.sublist List.filter_sublist (List.pairwise_map.2 (List.Pairwise.imp (fun {a b} h e => h (by omega)) (List.nodup_range (n := N))))
  have h2 := hnd.length_le_of_subset (l₂ := G) (fun x hx => by simpa using (List.mem_filter.1 hx).2)
  have h3 := hn.length_le_of_subset (l₂ := ((List.range N).map fun n : Nat => (n : Int)).filter fun s => decide (s ∈ G)) (fun x hx => by
    have := hb x hx
    refine List.mem_filter.2 ⟨List.mem_map.2 ⟨x.toNat, List.mem_range.2 (by omega), by omega⟩, by simpa using hx⟩)
  omega
theorem endsF_len {f : FlowP} (hc : checkF f = 0) : ((endsF f).length : Int) = f.senders := by
  have z := checkF_zero hc
  have hb := befF_mono (f := f) (Nat.le_refl f.lots.length)
  have hl := gone_len (f := f) (Nat.le_refl f.lots.length)
  have := rest_len (befF f f.lots.length).toNat (goneF f f.lots.length) (gone_nd hc (Nat.le_refl _)) (fun t ht => by have := gone_lt hc (Nat.le_refl _) t ht; omega)
  unfold endsF
  omega
end Go.Proofs.Ytfndjciojljkfaa


namespace Go.Proofs.Ytfndjciojljkfaa
set_option linter.unusedSimpArgs false
set_option linter.unusedVariables false
open Go.RowKit
abbrev takeF (f : FlowP) (k : Nat) : FlowP := ⟨f.senders, f.lots.take k⟩
section
variable {f : FlowP} {k i : Nat}
theorem take_bef (h : i ≤ k) : befF (takeF f k) i = befF f i := by
  unfold befF
  simp only [List.take_take, Nat.min_eq_left h]
theorem take_gone (h : i ≤ k) : goneF (takeF f k) i = goneF f i := by
  unfold goneF
  simp only [List.take_take, Nat.min_eq_left h]
theorem take_at (h : i < k) : (takeF f k).lots.getD i default = f.lots.getD i default := by
  simp only [List.getD_eq_getElem?_getD, List.getElem?_take, if_pos h]
theorem take_len (h : k ≤ f.lots.length) : (takeF f k).lots.length = k := by simp; omega
theorem check_take (hc : checkF f = 0) (hk : k ≤ f.lots.length) : checkF (takeF f k) = 0 := by
  obtain ⟨z1, z2, z3, z4, z5⟩ := checkF_zero hc
  have hl := take_len hk
  have hb := befF_mono (f := f) hk
  unfold checkF
  rw [hl, take_bef (Nat.le_refl k), if_neg (by show ¬ (64 < f.senders ∨ _); omega), if_neg (by show ¬ f.senders < 0; omega), if_pos]
  unfold validF
  rw [hl, List.all_eq_true]
  intro i hi
  have hik : i < k := by simpa using hi
  have := z5 i (by omega)
  unfold okAt at this ⊢
  rw [take_bef (by omega), take_gone (by omega), take_at hik]
  exact this
theorem OkF.take (hf : OkF f) (k : Nat) : OkF (takeF f k) := ⟨hf.s, Nat.le_trans (List.length_take_le' _ _) hf.l, fun x hx => hf.lots x (List.mem_of_mem_take hx)⟩
end
end Go.Proofs.Ytfndjciojljkfaa


namespace Go.Proofs.Ytfndjciojljkfaa
set_option linter.unusedSimpArgs false
set_option linter.unusedVariables false
open Go.RowKit
abbrev moreF (f : FlowP) (x : LotP) : FlowP := ⟨f.senders, f.lots ++ [x]⟩
section
variable {f : FlowP} {x : LotP}
theorem take_more (f : FlowP) (x : LotP) : takeF (moreF f x) f.lots.length = f := by
  cases f; simp [takeF]
theorem more_len (f : FlowP) (x : LotP) : (moreF f x).lots.length = f.lots.length + 1 := by simp
theorem more_at (f : FlowP) (x : LotP) : (moreF f x).lots.getD f.lots.length default = x := by simp [List.getD]
theorem more_check (hc : checkF (moreF f x) = 0) : checkF f = 0 := by
  have := check_take hc (k := f.lots.length) (by rw [more_len]; omega)
  rwa [take_more] at this
theorem more_known (hk : knownF (moreF f x) = true) : knownF f = true := by
  unfold knownF at hk ⊢
  rw [List.all_eq_true] at hk ⊢
  intro k hkl
  have hlt : k < f.lots.length := by simpa using hkl
  have := hk k (by simp; omega)
  have e : (moreF f x).lots.getD k default = f.lots.getD k default := by simp [List.getD, List.getElem?_append_left hlt]
  rw [e] at this
  exact this
theorem follow_take (f : FlowP) (m : Nat) (s : Int) : ∀ k, k ≤ m → followK (takeF f m) k s = followK f k s
  | 0, _ => rfl
  | k + 1, h => by
    rw [followK, followK, follow_take f m s k (by omega), take_bef (by omega), take_at (by omega)]
theorem more_follow (f : FlowP) (x : LotP) (s : Int) : followK (moreF f x) (moreF f x).lots.length s = stepF (befF f f.lots.length) x (followK f f.lots.length s) := by
  rw [more_len, followK, more_at]
  have h1 := follow_take (moreF f x) f.lots.length s f.lots.length (Nat.le_refl _)
  rw [take_more] at h1
  have h2 := take_bef (f := moreF f x) (k := f.lots.length) (i := f.lots.length) (Nat.le_refl _)
  rw [take_more] at h2
  rw [← h1, ← h2]
theorem OkF.more (hf : OkF f) (hx : OkL x) (hl : f.lots.length + 1 ≤ 140737488351232) : OkF (moreF f x) :=
  ⟨hf.s, by rw [more_len]; exact hl, fun y hy => by
    rcases List.mem_append.1 hy with hy | hy
    · exact hf.lots y hy
    · rw [List.mem_singleton.1 hy]; exact hx⟩
theorem mapAt_get (f : FlowP) {N s : Nat} (h : s < N) : (mapAt f N).getD s 0 = followK f f.lots.length s := by
  unfold mapAt
  rw [List.getD, List.getElem?_map, List.getElem?_range h]
  rfl
end
end Go.Proofs.Ytfndjciojljkfaa


namespace Go.Proofs.Ytfndjciojljkfaa
set_option linter.unusedSimpArgs false
open Go.ChangeShapes Go.WideShapes Go.ChangeAt Go.RowKit
set_option linter.unusedVariables false
section
variable {α : Type} {P : Program} {t e : TypeId} {sz : Nat} {enc : α → List D} {ok : α → Prop}
/-- a row with the bound on its bytes -/
def RSN (n sz : Nat) (R : RepT α) : RepT (List α) := fun F w l cs => RS sz R F w l cs ∧ l.length * n ≤ 140737488351232
theorem opens_sliceB {R : RepT α} (n : Nat) (g : Good sz R) (ho : Opens P e R) (hu : P.underlying t = some (.slice e)) (hc : P.cellsOf e = sz) (hpos : 0 < sz) (hb : 1 ≤ P.bytesOf e) (hn : n ≤ P.bytesOf e) : Opens P t (RSN n sz R) := by
  intro H en W k cs x h hw
  obtain ⟨l, hl⟩ := opens_slice g ho hu hc hpos hb h hw
  refine ⟨l, hl, ?_⟩
  obtain ⟨a0, cap0, hcs, _⟩ := hl
  rcases DataW.trod_slice hu h with ⟨rfl, _⟩ | ⟨a, len, cap, elems, rest, m, rfl, rfl, rfl, _, _, _, hlen, _, _, _⟩
  · simp only [List.cons.injEq, Value.slice.injEq] at hcs
    have : l.length = 0 := by omega
    rw [this]; omega
  · simp only [List.cons.injEq, Value.slice.injEq] at hcs
    simp only [DataW.weights, hu] at hw
    have hsz := hw _ (List.mem_cons_self ..)
    rw [List.length_map, List.length_map] at hsz
    unfold reachBytes at hsz
    have h1 : l.length ≤ elems.length + rest.length := by omega
    have h2 := Nat.mul_le_mul h1 hn
    rw [Nat.mul_comm] at hsz
    first | omega | (rw [Nat.mul_comm] at hsz; omega)
theorem ore_sliceB (n : Nat) (d0 : List D) (hl : ∀ x, (enc x).length = sz) (ho : Opens P e (RE enc ok)) (hu : P.underlying t = some (.slice e)) (hc : P.cellsOf e = sz) (hpos : 0 < sz) (hb : 1 ≤ P.bytesOf e) (hn : n ≤ P.bytesOf e) :
    Opens P t (RE (fun l : List α => [.sl sz d0 (l.map enc)]) (fun l => (l.length ≤ 140737488351232 ∧ ∀ x ∈ l, ok x) ∧ l.length * n ≤ 140737488351232)) :=
  opens_map (f := fun l : List α => l) (opens_sliceB n (good_re hl) ho hu hc hpos hb hn) fun {F w x cs} h => by
    obtain ⟨⟨a, cap, rfl, h1, h2, h3⟩, h4⟩ := h
    obtain ⟨k1, k2⟩ := rr_of hl h3
    refine ⟨⟨⟨h2, k2⟩, h4⟩, ⟨_, _, rfl, ⟨a, cap, by rw [List.length_map], by simpa using h1, by simpa using h2, k1⟩, rfl⟩, by simp [Value.oneCell']⟩
end
end Go.Proofs.Ytfndjciojljkfaa


namespace Go.Proofs.Ytfndjciojljkfaa
set_option linter.unusedSimpArgs false
set_option linter.unusedVariables false
open Go.ChangeShapes Go.WideShapes Go.ChangeAt Go.RowKit
def OkFB (f : FlowP) : Prop := OkF f ∧ f.lots.length * 56 ≤ 140737488351232
theorem opens_lotsB : Opens Try.prog 22 (RE (fun l : List LotP => [.sl 3 (lotD default) (l.map lotD)]) (fun l => (l.length ≤ 140737488351232 ∧ ∀ x ∈ l, OkL x) ∧ l.length * 56 ≤ 140737488351232)) :=
  ore_sliceB (sz := 3) 56 (lotD default) (by intro x; rfl) opens_lot Try.underlying22 (by kernel_rfl) (by decide) (Nat.le_of_ble_eq_true (by kernel_rfl)) (Nat.le_of_ble_eq_true (by kernel_rfl))
theorem opens_flowB : Opens Try.prog 24 (RE flowD OkFB) :=
  ore_map (f := fun x : Int × List LotP × Unit => (⟨x.1, x.2.1⟩ : FlowP))
    (opens_struct Try.underlying24 (by kernel_rfl)
      (oreL_1 (ore_int Try.underlying3) (by intro x; rfl) (by kernel_rfl) rfl (by simp) (oreL_1 opens_lotsB (by intro x; rfl) (by kernel_rfl) rfl (by simp) oreL_nil)))
    (by intro x; rfl) (by rintro x ⟨h1, h2, _⟩; exact ⟨⟨wf_int64 h1, h2.1.1, h2.1.2⟩, h2.2⟩)
end Go.Proofs.Ytfndjciojljkfaa


namespace Go.Proofs.Ytfndjciojljkfaa
set_option linter.unusedVariables false
set_option linter.unusedSimpArgs false
open Go.RowKit
def lkC : List (Nat × Nat) → Nat → Option Nat
  | [], _ => none
  | (i, j) :: l, k => if k = i then some j else lkC l k
theorem lkC_mem : ∀ {cs : List (Nat × Nat)} {i j : Nat}, lkC cs i = some j → (i, j) ∈ cs
  | [], _, _, h => by cases h
  | (a, b) :: cs, i, j, h => by
    simp only [lkC] at h
    split at h
    · rename_i e; cases h; subst e; simp
    · exact List.mem_cons_of_mem _ (lkC_mem h)
theorem lkC_of_mem : ∀ {cs : List (Nat × Nat)} {i j : Nat}, (cs.map (·.1)).Nodup → (i, j) ∈ cs → lkC cs i = some j
  | [], _, _, _, h => by cases h
  | (a, b) :: cs, i, j, hn, h => by
    simp only [List.map_cons, List.nodup_cons] at hn
    simp only [lkC]
    rcases List.mem_cons.1 h with e | h
    · cases e; rw [if_pos rfl]
    · rw [if_neg (fun e => hn.1 (by rw [← e]; exact List.mem_map.2 ⟨(i, j), h, rfl⟩)), lkC_of_mem hn.2 h]
section
variable {P : Program} {B : Base} {T : Tab} {ops : Array Oper}
/-- one operation of the head, that may take a row made in the region: whatever else has run already -/
def HG (P : Program) (B : Base) (ops : Array Oper) (o : Oper) (tmi : Nat → V) (st0 : Nat → Option Blk) (rq : Option (Nat × Blk)) (nm : Nat) (v : V) (x : Option Blk) : Prop :=
  ∀ (tm : Nat → V) (σ : Nat → Option Blk) (fr : Nat → Prop) (E : Env) (a : Act), GamS P B σ fr E → GamT B tm E a → fr nm → (∀ n b, st0 n = some b → σ n = some b) → (∀ p, rq = some p → σ p.1 = some p.2) → (∀ t ∈ o.looksAt ops, tm t = tmi t) →
    (Region.wanted o (yielded ops a.tmps) = true → Upon P (fun u w' => ∃ E', E'.w = w' ∧ GamS P B (fun n => if n = nm then x else if rq.map (·.1) = some n then none else σ n) (fun n => fr n ∧ (x.isSome = true → n ≠ nm)) E' ∧ Ext E E' ∧ E'.dp = E.dp ∧ RV E' v u) ((execOp a.eval o).run P E.w)) ∧
    (Region.wanted o (yielded ops a.tmps) = false → x = none ∧ rq = none ∧ RV E v undef)
theorem HG.of {o : Oper} {tmi : Nat → V} {st0 : Nat → Option Blk} {nm : Nat} {v : V} {x : Option Blk} (h : HF P B ops o tmi st0 nm v x) : HG P B ops o tmi st0 none nm v x := by
  intro tm σ fr E a hS hT hfr hst _ hag
  obtain ⟨h1, h2⟩ := h tm σ fr E a hS hT hfr hst hag
  exact ⟨fun hw => (h1 hw).mono fun u w' ⟨E', e, hS', hr⟩ => ⟨E', e, hS'.congr (fun n => by simp) (fun n hn => hn), hr⟩, fun hw => ⟨(h2 hw).1, rfl, (h2 hw).2⟩⟩
/-- what an append takes: nothing, or a row made in the region -/
def apH (nb : List (Nat × Blk)) (el : Nat) (i : TyI) (K : List D → List (List D) → Option (Nat × Blk) → Prop) : V → Prop
  | .d (.c (.slice none 0 0)) => K (zD i.z) [] none
  | .ow n sz d0 es => match lkB nb n with
    | some (.tok e sz' len) => e = el ∧ sz = i.sz ∧ sz' = i.sz ∧ len = es.length ∧ K d0 es (some (n, .tok e sz' len))
    | _ => False
  | _ => False
theorem apH_ok {nb : List (Nat × Blk)} {el : Nat} {i : TyI} {K : List D → List (List D) → Option (Nat × Blk) → Prop} {x : V} (h : apH nb el i K x) : ∃ d0 es rq, K d0 es rq ∧ (∀ p, rq = some p → lkB nb p.1 = some p.2) ∧ ∀ {B : Base} {σ : Nat → Option Blk} {fr : Nat → Prop} {E : Env} {v0 : Value}, GamS P B σ fr E → (∀ p, rq = some p → σ p.1 = some p.2) → RV E x v0 →
    ∃ us0, E.w.ownsRow 0 el i.sz v0 es.length us0 ∧ RDL E.F E.w es.flatten us0 ∧ (∀ u ∈ us0, u.oneCell' = true) ∧ (∀ x ∈ es, x.length = i.sz) ∧ (∀ b, hb v0 = some b → okB B E b (fun o => o < es.length * i.sz)) ∧ ∀ k y, (if rq.map (·.1) = some k then none else σ k) = some y → σ k = some y ∧ ∀ v b, E.η k = some v → hb v = some b → hb v0 ≠ some b := by
  unfold apH at h
  split at h <;> try exact h.elim
  · refine ⟨_, _, _, h, (fun p hp => by cases hp), fun hg _ hv => ?_⟩
    simp only [RV, RD] at hv
    subst hv
    exact ⟨[], World.ownsRow_nil _ _ _ _, by simp [RDL], by simp, by simp, fun b hb' => by simp [hb] at hb', fun k y hy => ⟨by simpa using hy, fun v b _ _ => by simp [hb]⟩⟩
  · rename_i n sz d0 es
    split at h <;> try exact h.elim
    rename_i e sz' len hst
    obtain ⟨rfl, rfl, rfl, rfl, h⟩ := h
    refine ⟨_, _, _, h, (fun p hp => by cases hp; exact hst), fun {B σ fr E v0} hg hrq hv => ?_⟩
    have hst' := hrq _ rfl
    simp only at hst'
    simp only [RV] at hv
    obtain ⟨v1, us, h1, h2, h3⟩ := hg.st n _ hst'
    rw [hv.1] at h1
    cases h1
    obtain ⟨g1, g2, g3, _⟩ := own_cells hv.2 h2
    refine ⟨us, h2, g1, g2, g3, h3, fun k y hy => ?_⟩
    by_cases hk : k = n
    · rw [if_pos (by simp [hk])] at hy; cases hy
    · rw [if_neg (by simp; exact fun e => hk e.symm)] at hy
      exact ⟨hy, fun v b hvk hbk hb0 => hg.dist k n y _ b v v0 hk hy hst' hvk hv.1 hbk hb0⟩
/-- append(x, y...) in the head -/
def apKH (T : Tab) (nb : List (Nat × Blk)) (nm : Nat) (K : V → Option Blk → Option (Nat × Blk) → Prop) : List TypeId → List V → Prop
  | [t, t'], [x, y] => t = t' ∧ match ty T t with
    | some ⟨.slice el, _, _, _⟩ => match ty T el with
      | some i => (0 < i.sz ∧ i.z.cells.size = i.sz) ∧ apH nb el i (fun d0 es rq => apS i.sz (fun fs => (es.length + fs.length) * i.by_ ≤ 140737488355328 ∧ es.length + fs.length ≤ 140737488351232 ∧ K (.ow nm i.sz d0 (es ++ fs)) (some (.tok el i.sz (es.length + fs.length))) rq) y) x
      | none => False
    | _ => False
  | _, _ => False
theorem apKH_ok {o : Oper} {tmi : Nat → V} {st0 : Nat → Option Blk} {nb : List (Nat × Blk)} {nm : Nat} (hT : TabOk P T) {c : Call} (ho : o.op = .call c) (hgd : o.guard = none) (hc : c.callee = .builtin .append) (hco : (c.args.toList.all (constOk B.N)) = true) {K : V → Option Blk → Option (Nat × Blk) → Prop} (h : apKH T nb nm K c.argTypes.toList (c.args.toList.map (ev tmi))) :
    ∃ v x rq, K v x rq ∧ (∀ p, rq = some p → lkB nb p.1 = some p.2) ∧ HG P B ops o tmi st0 rq nm v x := by
  generalize hts : c.argTypes.toList = ts at h
  generalize has : c.args.toList.map (ev tmi) = vs at h
  unfold apKH at h
  split at h <;> try exact h.elim
  rename_i t t' x y
  obtain ⟨rfl, h⟩ := h
  have hts' : c.argTypes = #[t, t] := by rw [← Array.toArray_toList (xs := c.argTypes), hts]
  obtain ⟨p, q, h1, h2, h3⟩ := args_two has
  have has' : c.args = #[p, q] := by rw [← Array.toArray_toList (xs := c.args), h1]
  split at h <;> try exact h.elim
  rename_i el sz z bt hi1
  split at h <;> try exact h.elim
  rename_i i hi2
  obtain ⟨⟨hpos, hzs⟩, h⟩ := h
  obtain ⟨d0, es, rq, h, hrqn, hD⟩ := apH_ok (P := P) h
  obtain ⟨fs, ⟨hby, hmax, hK⟩, hS⟩ := apS_ok h
  refine ⟨_, _, rq, hK, hrqn, fun tm σ fr E a hS0 hT0 hfr hst hrq hag => ?_⟩
  have hw : Region.wanted o (yielded ops a.tmps) = true := by simp [Region.wanted, hgd]
  refine ⟨fun _ => ?_, fun h' => by rw [hw] at h'; cases h'⟩
  rw [h1] at hco
  simp only [List.all_cons, List.all_nil, Bool.and_true, Bool.and_eq_true] at hco
  have hpo : p ∈ o.op.operands := by rw [ho]; simp [Op.operands, Call.operands, has']
  have hqo : q ∈ o.op.operands := by rw [ho]; simp [Op.operands, Call.operands, has']
  have rx := ev_ok hT0 p hco.1
  have ry := ev_ok hT0 q hco.2
  rw [ev_congr hag hpo, h2] at rx
  rw [ev_congr hag hqo, h3] at ry
  obtain ⟨us0, k1, k2, k3, k4, k5, k6⟩ := hD hS0 hrq rx
  have ht := (ty_ok hT hi1).2
  have hinf := (ty_ok hT hi2).1
  simp only [kdOk] at ht
  obtain ⟨j, hj, hz, hsz, hbyt⟩ : ∃ j, P.info? el = some j ∧ j.zero = some i.z ∧ j.size = i.sz ∧ j.bytes = i.by_ := by
    cases hj : P.info? el with
    | none => rw [hj] at hinf; cases hinf
    | some j => rw [hj] at hinf; simp at hinf; exact ⟨j, rfl, hinf.2.1, hinf.1, hinf.2.2⟩
  obtain ⟨a0, c0, hv0, _⟩ := own_form k1
  have hgrow : ∃ v' w' news, (Builtin.append_ #[t, t] o.type #[a.eval p, a.eval q]).run P E.w = .ok v' w' ∧ Grew 0 el i.sz E.w (a.eval p) v' (es.length + fs.length) (us0 ++ news) w' ∧ (∀ g, (a.eval p).ownBlock = some g → v'.ownBlock = some g ∨ w'.heap[g]? = E.w.heap[g]?) ∧ RDL E.F E.w fs.flatten news ∧ (∀ u ∈ news, u.oneCell' = true) ∧ ∀ x ∈ fs, x.length = i.sz := by
    rcases hS ry with ⟨c1, hu, rfl⟩ | ⟨ad, c1, news, hu, g1, g2, g3, g4, g5⟩
    · refine ⟨a.eval p, E.w, [], by rw [hu]; exact run_append_none E.w 0 t _ el j ht hj _ _ _ k1 c1, by simpa using Grew.refl k1, fun _ _ => .inr rfl, by simp [RDL], by simp, by simp⟩
    · obtain ⟨v', w', r1, r2, r3⟩ := run_append_own3 (P := P) E.w 0 t o.type el j i.z i.sz i.by_ ht hj hz hsz hbyt hzs hpos (a.eval p) es.length us0 k1 ad fs.length c1 news g2 g5 g3 (by unfold maxLen; omega) hby (Nat.zero_le _)
      exact ⟨v', w', news, by rw [hu]; exact r1, r2, r3, g1, g3, g4⟩
  obtain ⟨v', w', news, r1, r2, r3, r4, r5, r6⟩ := hgrow
  have hσn : (if rq.map (·.1) = some nm then none else σ nm) = none := by
    rw [hS0.none_of_fresh hfr]; split <;> rfl
  have hdp : ∀ b, hb (a.eval p) = some b → E.w.heap[b]? ≠ some (.deferred (some [])) := fun b hb' => by
    rcases k1.2 with ⟨e1, _⟩ | ⟨g, cap, cur, e1, _, e3, _⟩
    · rw [e1] at hb'; cases hb'
    · rw [e1] at hb'; cases hb'; rw [e3]; simp
  obtain ⟨E', hw', hG, hE, hR, hD'⟩ := GamS.grow (d0 := d0) (σ1 := fun k => if rq.map (·.1) = some k then none else σ k) (σ' := fun n => if n = nm then some (.tok el i.sz (es.length + fs.length)) else if rq.map (·.1) = some n then none else σ n) (fr' := fun n => fr n ∧ ((some (Blk.tok el i.sz (es.length + fs.length))).isSome = true → n ≠ nm)) (nx := nm) (m := fs.length) hS0 hdp hfr (fun k hk => ⟨hk.1, hk.2 rfl⟩) (fun k => rfl) k6 hσn k5 r2 r3 (ownBlock_hb hv0) rfl rfl k1.1
    (fun g hg' j u hj => by
      have := k1.cells (g := g) ((ownBlock_hb hv0).trans hg') j u hj
      rwa [Addr.add_any, Nat.zero_add] at this) k2 r4 k3 r5 k4 r6 hmax
  have hrun : (execOp a.eval o).run P E.w = .ok (.value v') w' := by simp [execOp, ho, resolve, hc, has', hts', invoke, builtin, r1]
  rw [hrun]
  simp only [Upon]
  exact ⟨E', hw', hG, hE, hD', hR⟩
def delO : Option (Nat × Blk) → List (Nat × Blk) → List (Nat × Blk)
  | none, l => l
  | some p, l => delB p.1 l
/-- what a row's taking is, by the pairs given -/
def rqOk (cs : List (Nat × Nat)) (nx i : Nat) : Option (Nat × Blk) → Prop
  | none => lkC cs i = none
  | some p => lkC cs i = some (p.1 - nx) ∧ nx ≤ p.1
/-- one operation of the head, evaluated -/
def hopC (P : Program) (T : Tab) (ops : Array Oper) (o : Oper) (tm : List (Nat × V)) (st0 nb : List (Nat × Blk)) (nm : Nat) (K : V → Option Blk → Option (Nat × Blk) → Prop) : Prop :=
  match o.guard with
  | none => match o.op with
    | .call ⟨.builtin .append, asA, ts⟩ => apKH T nb nm K ts.toList (asA.toList.map (ev (lkT tm)))
    | op => hop P T True op (ev (lkT tm)) (lkB st0) nm (fun v x => K v x none)
  | some _ => hopH P T ops o tm st0 nm (fun v x => K v x none)
theorem hopC_ok (hT : TabOk P T) {o : Oper} {tm : List (Nat × V)} {st0 nb : List (Nat × Blk)} {nm : Nat} {K : V → Option Blk → Option (Nat × Blk) → Prop} (hops : ∀ o ∈ ops.toList, opOk B.N o = true) (hc : (o.op.operands.toList.all (constOk B.N)) = true) (h : hopC P T ops o tm st0 nb nm K) :
    ∃ v x rq, K v x rq ∧ (∀ p, rq = some p → lkB nb p.1 = some p.2) ∧ HG P B ops o (lkT tm) (lkB st0) rq nm v x := by
  unfold hopC at h
  split at h
  · rename_i hg
    split at h
    · rename_i asA ts hop
      refine apKH_ok hT hop hg rfl ?_ h
      refine List.all_eq_true.2 fun z hz => List.all_eq_true.1 hc z ?_
      rw [hop]
      simp only [Op.operands, Call.operands]
      simp [Array.mem_toList_iff.1 hz]
    · obtain ⟨v, x, hK, hd⟩ := hop_ok hT h
      exact ⟨v, x, none, hK, (fun p hp => by cases hp), .of (hf_next hc hg (hd trivial))⟩
  · obtain ⟨v, x, hK, hf⟩ := hopH_ok hT hops hc h
    exact ⟨v, x, none, hK, (fun p hp => by cases hp), .of hf⟩
/-- the head -/
def hwpC (P : Program) (T : Tab) (ops : Array Oper) (st0 : List (Nat × Blk)) (nx : Nat) (cs : List (Nat × Nat)) : List (Nat × Oper) → List (Nat × V) → List (Nat × Blk) → (List (Nat × V) → List (Nat × Blk) → Prop) → Prop
  | [], tm, nb, K => K tm nb
  | (i, o) :: l, tm, nb, K => hopC P T ops o tm st0 nb (nx + i) (fun v x rq => rqOk cs nx i rq ∧ hwpC P T ops st0 nx cs l (put o.dst v tm) (addN (nx + i) x (delO rq nb)) K)
/-- its run: nb: the rows that are there, mb: all that were made -/
def HRunC (P : Program) (B : Base) (ops : Array Oper) (st0 : List (Nat × Blk)) (nx : Nat) (cs : List (Nat × Nat)) (tmF : List (Nat × V)) (nbF mbF : List (Nat × Blk)) : List (Nat × Oper) → List (Nat × V) → List (Nat × Blk) → List (Nat × Blk) → Prop
  | [], tm, nb, mb => tmF = tm ∧ nbF = nb ∧ mbF = mb
  | (i, o) :: l, tm, nb, mb => ∃ v x rq, (∀ p, rq = some p → lkB nb p.1 = some p.2) ∧ HG P B ops o (lkT tm) (lkB st0) rq (nx + i) v x ∧ rqOk cs nx i rq ∧ HRunC P B ops st0 nx cs tmF nbF mbF l (put o.dst v tm) (addN (nx + i) x (delO rq nb)) (addN (nx + i) x mb)
theorem hwpC_ok (hT : TabOk P T) {st0 : List (Nat × Blk)} {nx : Nat} {cs : List (Nat × Nat)} {K : List (Nat × V) → List (Nat × Blk) → Prop} (hops : ∀ o ∈ ops.toList, opOk B.N o = true) : ∀ (l : List (Nat × Oper)) (tm : List (Nat × V)) (nb mb : List (Nat × Blk)), (l.all fun p => p.2.op.operands.toList.all (constOk B.N)) = true → hwpC P T ops st0 nx cs l tm nb K → ∃ tmF nbF mbF, K tmF nbF ∧ HRunC P B ops st0 nx cs tmF nbF mbF l tm nb mb
  | [], tm, nb, mb, _, h => ⟨tm, nb, mb, h, rfl, rfl, rfl⟩
  | (i, o) :: l, tm, nb, mb, hc, h => by
    simp only [List.all_cons, Bool.and_eq_true] at hc
    obtain ⟨v, x, rq, ⟨hq, h1⟩, hn, h2⟩ := hopC_ok (B := B) hT hops hc.1 h
    obtain ⟨tmF, nbF, mbF, h3, h4⟩ := hwpC_ok hT hops l _ _ (addN (nx + i) x mb) hc.2 h1
    exact ⟨tmF, nbF, mbF, h3, v, x, rq, hn, h2, hq, h4⟩
theorem lkB_delO {rq : Option (Nat × Blk)} {l : List (Nat × Blk)} (n : Nat) : lkB (delO rq l) n = if rq.map (·.1) = some n then none else lkB l n := by
  cases rq with
  | none => simp [delO]
  | some p =>
    simp only [delO, lkB_delB, Option.map_some, Option.some.injEq]
    by_cases h : n = p.1
    · rw [if_pos h, if_pos h.symm]
    · rw [if_neg h, if_neg (fun e => h e.symm)]
theorem rqOk_map {cs : List (Nat × Nat)} {nx i : Nat} {rq : Option (Nat × Blk)} (h : rqOk cs nx i rq) (n : Nat) : rq.map (·.1) = some n ↔ ∃ j, lkC cs i = some j ∧ n = nx + j := by
  cases rq with
  | none =>
    simp only [rqOk] at h
    simp [h]
  | some p =>
    simp only [rqOk] at h
    simp only [Option.map_some, Option.some.injEq]
    constructor
    · intro e; exact ⟨_, h.1, by omega⟩
    · rintro ⟨j, h1, h2⟩
      rw [h.1] at h1
      injection h1 with h1
      omega
theorem hrunC_facts {st0 : List (Nat × Blk)} {nx : Nat} {cs : List (Nat × Nat)} {tmF : List (Nat × V)} {nbF mbF : List (Nat × Blk)} (hcs : ∀ c ∈ cs, c.2 < c.1) : ∀ (l : List (Nat × Oper)) (tm : List (Nat × V)) (nb mb : List (Nat × Blk)), incr l = true → (∀ n q, lkB nb n = some q → lkB mb n = some q) → HRunC P B ops st0 nx cs tmF nbF mbF l tm nb mb →
    (∀ t, (∀ p ∈ l, p.2.dst ≠ some t) → lkT tmF t = lkT tm t) ∧ (∀ n, (∀ p ∈ l, n ≠ nx + p.1) → lkB mbF n = lkB mb n) ∧
    (∀ n, (∃ p ∈ l, ∃ j, lkC cs p.1 = some j ∧ n = nx + j) → (∀ p ∈ l, ∀ q ∈ l, ∀ j, lkC cs p.1 = some j → nx + j = nx + q.1 → q.1 < p.1) → lkB nbF n = none) ∧
    (∀ n, (∀ p ∈ l, ∀ j, lkC cs p.1 = some j → n ≠ nx + j) → lkB mb n = lkB nb n → lkB nbF n = lkB mbF n) ∧
    ∀ p ∈ l, ∃ tmi v x rq, HG P B ops p.2 tmi (lkB st0) rq (nx + p.1) v x ∧ (∀ d, p.2.dst = some d → lkT tmF d = v) ∧ (lkB mb (nx + p.1) = none → lkB mbF (nx + p.1) = x) ∧
      (∀ t, ∀ q ∈ l, q.1 < p.1 → q.2.dst = some t → tmi t = lkT tmF t) ∧ (∀ t, (∀ q ∈ l, q.1 < p.1 → q.2.dst ≠ some t) → tmi t = lkT tm t) ∧ rqOk cs nx p.1 rq ∧ (∀ z, rq = some z → lkB mbF z.1 = some z.2)
  | [], tm, nb, mb, _, _, h => by
    obtain ⟨rfl, rfl, rfl⟩ := h
    exact ⟨fun _ _ => rfl, fun _ _ => rfl, (fun n h _ => by obtain ⟨p, hp, _⟩ := h; cases hp), (fun n _ h => h.symm), (fun p hp => by cases hp)⟩
  | (i, o) :: l, tm, nb, mb, hi, hsub, h => by
    simp only [incr, Bool.and_eq_true] at hi
    obtain ⟨v, x, rq, hn, h1, hrq, h2⟩ := h
    have hlt : ∀ p ∈ l, i < p.1 := fun p hp => by have := List.all_eq_true.1 hi.1 p hp; simp at this; exact this.1
    have hne : ∀ p ∈ l, ∀ d, o.dst = some d → p.2.dst ≠ some d := fun p hp d hd => by
      have := List.all_eq_true.1 hi.1 p hp
      rw [hd] at this
      simp at this
      exact this.2
    have hsub' : ∀ n q, lkB (addN (nx + i) x (delO rq nb)) n = some q → lkB (addN (nx + i) x mb) n = some q := fun n q hq => by
      rw [lkB_addN] at hq ⊢
      split at hq
      · rename_i hc; rw [if_pos hc]; exact hq
      · rename_i hc
        rw [if_neg hc]
        rw [lkB_delO] at hq
        split at hq
        · cases hq
        · exact hsub n q hq
    obtain ⟨f1, f2, f2a, f2b, f3⟩ := hrunC_facts hcs l _ _ _ hi.2 hsub' h2
    have hkeep : ∀ n, (∀ p ∈ l, n ≠ nx + p.1) → lkB mbF n = lkB (addN (nx + i) x mb) n := f2
    refine ⟨fun t ht => ?_, fun n hn => ?_, fun n hex hord => ?_, fun n hno hmn => ?_, fun p hp => ?_⟩
    · rw [f1 t (fun p hp => ht p (by simp [hp])), lkT_put, if_neg (ht (i, o) (by simp))]
    · rw [f2 n (fun p hp => hn p (by simp [hp])), lkB_addN, if_neg (fun e => hn (i, o) (by simp) e.1)]
    · obtain ⟨p, hp, j, hj, rfl⟩ := hex
      by_cases hin : ∃ p ∈ l, ∃ j', lkC cs p.1 = some j' ∧ nx + j = nx + j'
      · exact f2a _ hin (fun p hp q hq => hord p (by simp [hp]) q (by simp [hq]))
      · have hpi : p = (i, o) := by
          rcases List.mem_cons.1 hp with e | hp
          · exact e
          · exact (hin ⟨p, hp, j, hj, rfl⟩).elim
        subst hpi
        have hji := hcs _ (lkC_mem hj)
        simp only at hji hj
        -- the row is gone and is not made again
        have hgo : ∀ (l : List (Nat × Oper)) (tm : List (Nat × V)) (nb mb : List (Nat × Blk)), HRunC P B ops st0 nx cs tmF nbF mbF l tm nb mb → (∀ p ∈ l, nx + j ≠ nx + p.1) → lkB nb (nx + j) = none → lkB nbF (nx + j) = none := by
          intro l
          induction l with
          | nil => rintro tm nb mb ⟨_, rfl, _⟩ _ h; exact h
          | cons q l ih =>
            rintro tm nb mb ⟨v, x, rq, _, _, _, h⟩ hne h0
            refine ih _ _ _ h (fun p hp => hne p (by simp [hp])) ?_
            rw [lkB_addN, if_neg (fun e => hne q (by simp) e.1), lkB_delO, h0]
            split <;> rfl
        refine hgo l _ _ _ h2 (fun q hq e => by have := hlt q hq; omega) ?_
        rw [lkB_addN, if_neg (fun e => by omega), lkB_delO, if_pos ((rqOk_map hrq _).2 ⟨j, hj, rfl⟩)]
    · refine f2b n (fun p hp => hno p (by simp [hp])) ?_
      have hni : ¬ rq.map (·.1) = some n := fun e => by
        obtain ⟨j, h1, h2⟩ := (rqOk_map hrq n).1 e
        exact hno (i, o) (by simp) j h1 h2
      rw [lkB_addN, lkB_addN, lkB_delO, if_neg hni, hmn]
    · rcases List.mem_cons.1 hp with rfl | hp'
      · refine ⟨lkT tm, v, x, rq, h1, fun d hd => ?_, fun hnb => ?_, fun t q hq hlt' => ?_, fun t _ => rfl, hrq, fun z hz => ?_⟩
        · rw [f1 d (fun p hp => hne p hp d hd), lkT_put, if_pos hd]
        · rw [f2 (nx + i) (fun p hp e => by have := hlt p hp; omega), lkB_addN]
          cases x with
          | none => simp [hnb]
          | some b => simp
        · rcases List.mem_cons.1 hq with rfl | hq
          · exact (Nat.lt_irrefl _ hlt').elim
          · have := hlt q hq; omega
        · obtain ⟨j, hj1, hj2⟩ := (rqOk_map hrq z.1).1 (by rw [hz]; rfl)
          have hji := hcs _ (lkC_mem hj1)
          simp only at hji
          rw [f2 z.1 (fun p hp e => by have := hlt p hp; omega), lkB_addN, if_neg (fun e => by omega)]
          exact hsub _ _ (hn z hz)
      · obtain ⟨tmi, v', x', rq', g1, g2, g3, g4, g5, g6, g7⟩ := f3 p hp'
        have hip := hlt p hp'
        refine ⟨tmi, v', x', rq', g1, g2, fun hnb => g3 ?_, fun t q hq hql hqt => ?_, fun t ht => ?_, g6, g7⟩
        · rw [lkB_addN, if_neg (by rintro ⟨e, _⟩; omega)]; exact hnb
        · rcases List.mem_cons.1 hq with rfl | hq
          · have hqt' : o.dst = some t := hqt
            rw [g5 t (fun r hr _ => hne r hr t hqt'), f1 t (fun r hr => hne r hr t hqt')]
          · exact g4 t q hq hql hqt
        · rw [g5 t (fun q hq hql => ht q (by simp [hq]) hql), lkT_put, if_neg (ht (i, o) (by simp) hip)]
/-- the rows that heads take: each waits for what makes it, and none is taken twice -/
def takeOk (l : List Oper) (hd : List Nat) (cs : List (Nat × Nat)) : Bool :=
  cs.all (fun c => decide (c.2 < c.1) && hd.contains c.1 && reachB .any l.toArray l.length c.1 c.2) && decide (cs.map (·.1)).Nodup && decide (cs.map (·.2)).Nodup
end
end Go.Proofs.Ytfndjciojljkfaa

