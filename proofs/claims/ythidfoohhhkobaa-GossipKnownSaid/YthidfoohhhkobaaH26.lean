import Derived.Test.YthidfoohhhkobaaRows
import Derived.WalkKit
import Derived.ProofKit
import Derived.OpenShut
import Derived.Carry
import Derived.ChangeSlices
import Derived.Test.YthidfoohhhkobaaH1
import Derived.SizedLaws
import Derived.Test.YthidfoohhhkobaaH18
namespace Go.Proofs.Ythidfoohhhkobaa
set_option linter.unusedSimpArgs false
set_option linter.unusedVariables false
open Go.ChangeShapes Go.WideShapes Go.ChangeAt Go.RowKit

theorem trodAll_below {H : Type} {enc : TypeId × Value → H} {P : Program} (hl : laidOutB P = true) {W W' : World} (hb : Below W.heap.size W W') {sp : Nat → Bool} :
    ∀ {ts : List TypeId} {vs : List Value} {ds : List (DataW H)} {ps : List MemPlace}, (∀ t ∈ ts, P.readableRec t = true ∧ t < P.types.size) → (∀ x ∈ ps, x.block < W.heap.size) → (∀ x ∈ ps, sp x.block = true) →
      DataW.TrodAll enc P W 0 (fun _ => true) true ts vs ds ps → DataW.TrodAll enc P W' 0 sp true ts vs ds ps
  | [], _, _, _, _, _, _, h => by
    obtain ⟨rfl, rfl, rfl⟩ := trodAll_nil h
    exact rfl
  | t :: ts, _, _, _, hr, hlt, hsp, h => by
    obtain ⟨v, vs1, d, ds1, a, b, rfl, rfl, rfl, h1, h2⟩ := trodAll_cons h
    refine ⟨a, b, ?_, trodAll_below hl hb (fun u hu => hr u (List.mem_cons_of_mem _ hu)) (fun x hx => hlt x (by simp [hx])) (fun x hx => hsp x (by simp [hx])) h2, rfl⟩
    exact WideElems.Trod_stays hl (hr t (by simp)).1 (hr t (by simp)).2 h1 (fun x hx => hb.same (hlt x (by simp [hx]))) (fun x hx => hsp x (by simp [hx]))

theorem post_read {H : Type} {enc : TypeId × Value → H} {P : Program} {f : Func} {s : ChangeSpec} {fresh handsOn again : Bool} {W W' : World} {args : Array Value} {ds : List (DataW H)} {before : List MemPlace} {tb : TypeId}
    (hl : laidOutB P = true) (hs : s.vars = []) (hr : f.resultTypes = #[tb]) (htb : P.underlying tb = some .bool)
    (hts : (f.params.toList.all fun t => P.readableRec t && decide (t < P.types.size)) = true)
    (hfn : s.fn H (ds ++ []) = { results := [.lit (.bool true)], args := ds })
    (hW : DataW.Whole enc P f.params.toList s.vars false W args.toList ds [] before) (hb : Below W.heap.size W W') :
    s.post enc P f false fresh handsOn again W args (.bool true) W' := by
  have hW0 := hW
  have hlt : ∀ p ∈ before, p.block < W.heap.size := fun p hp => hW.lt p hp
  have hold : ∀ p ∈ before, (fun b => decide (b < W.heap.size)) p.block = true := fun p hp => by simpa using hlt p hp
  rw [hs] at hW
  obtain ⟨p, q, hA, hV, rfl, hz, hn⟩ := hW
  obtain ⟨_, rfl⟩ := trodVars_none hV
  rw [List.append_nil] at hlt hold hz hn
  have hts' : ∀ t ∈ f.params.toList, P.readableRec t = true ∧ t < P.types.size := fun t ht => by
    have := List.all_eq_true.1 hts t ht
    simpa using this
  have hargs : ∀ sp : Nat → Bool, (∀ x ∈ p, sp x.block = true) → DataW.TrodAll enc P W' 0 sp true f.params.toList args.toList (s.fn H (ds ++ [])).args p := fun sp hsp => by
    rw [hfn]
    exact trodAll_below hl hb hts' hlt hsp hA
  have hres : ∀ (b : Nat) (sp : Nat → Bool) (hd : Bool), DataW.TrodAll enc P W' b sp hd f.resultTypes.toList ((Value.bool true).resultList f.resultTypes.size) (s.fn H (ds ++ [])).results [] := fun b sp hd => by
    rw [hfn, hr]
    exact trodAll_cons_mk (shut_bool htb _) trodAll_mk0
  have hvars : ∀ sp : Nat → Bool, DataW.TrodVars enc P W' sp s.vars (s.fn H (ds ++ [])).vars [] := fun sp => by
    rw [hfn, hs]
    exact rfl
  have hok : ∀ (j : Nat) (t : TypeId) (r : Value), f.resultTypes[j]? = some t → ((Value.bool true).resultList f.resultTypes.size)[j]? = some r → Value.okWide P W' .any 0 t r :=
    ok_one hr rfl (okWide_bool_mk htb _)
  refine ⟨ds, [], p ++ [], [], p, [], hW0, hres _ _ _, hargs _ hold, hvars _, World.keptBut_mono (fun x hx => ⟨hx, ?_⟩) (hb.frame (· ∈ p ++ [])), fun _ => ?_⟩
  · simpa using hx
  · refine ⟨hok, _, _, ([] ++ p) ++ [], ⟨[] ++ p, [], trodAll_append (hargs _ (fun _ _ => rfl)) (hres _ _ _), hvars _, rfl, ?_, ?_⟩, ?_⟩
    · intro b off hp
      have hp' : MemPlace.cell b off ∈ p := by simpa using hp
      rw [hb.frozen (p := ⟨b, off, none⟩) (hlt _ hp')]
      exact hz b off hp'
    · intro ha
      cases ha
    · intro x hx _
      simpa using hx

end Go.Proofs.Ythidfoohhhkobaa


namespace Go.Proofs.Ythidfoohhhkobaa
set_option linter.unusedSimpArgs false
open Go.ChangeShapes Go.WideShapes Go.ChangeAt Go.RowKit
set_option linter.unusedVariables false

def Opens {α : Type} (P : Program) (t : TypeId) (R : RepT α) : Prop :=
  ∀ {H : Type} {enc : TypeId × Value → H} {W : World} {n : Nat} {cs : List Value} {x : DataW H × List MemPlace}, DataW.trod enc P W 0 (fun _ => true) true n t cs = some x → (∀ k ∈ x.1.weights P t, k ≤ reachBytes) → ∃ y : α, R (Now W) W y cs
section
variable {α β : Type} {P : Program} {t e : TypeId} {sz : Nat} {R : RepT α}
theorem opens_int {k : IntKind} (hu : P.underlying t = some (.int k)) : Opens P t (RI k) := fun h _ => by
  obtain ⟨n, e, _, hw⟩ := DataW.trod_int hu h
  exact ⟨n, e, hw⟩
theorem mapM_get {f : Nat → Option Value} : ∀ {l : List Nat} {cs : List Value}, l.mapM f = some cs → cs.length = l.length ∧ ∀ (j : Nat) (u : Value), cs[j]? = some u → ∃ i : Nat, l[j]? = some i ∧ f i = some u
  | [], cs, h => by
    simp at h
    subst h
    exact ⟨rfl, fun j u h => by simp at h⟩
  | i :: l, cs, h => by
    rw [List.mapM_cons] at h
    cases h1 : f i with
    | none => simp [h1] at h
    | some u =>
      cases h2 : l.mapM f with
      | none => simp [h1, h2] at h
      | some us =>
        simp [h1, h2] at h
        subst h
        obtain ⟨hl, hg⟩ := mapM_get h2
        refine ⟨by simp [hl], fun j v hv => ?_⟩
        cases j with
        | zero => simp at hv; subst hv; exact ⟨i, rfl, h1⟩
        | succ j => simpa using hg j v (by simpa using hv)
theorem cells_get {w : World} {a : Addr} {n : Nat} {cs : List Value} (h : w.cells? 0 a n = some cs) : cs.length = n ∧ ∀ (j : Nat) (u : Value), cs[j]? = some u → w.cell? (a.add j) = some u := by
  unfold World.cells? at h
  rw [if_pos (Nat.zero_le _)] at h
  obtain ⟨hl, hg⟩ := mapM_get h
  refine ⟨by simpa using hl, fun j u hu => ?_⟩
  obtain ⟨i, hi, hf⟩ := hg j u hu
  have : i = j := by
    have hj : j < n := by have := (List.getElem?_eq_some_iff.1 hu).1; rw [hl] at this; simpa using this
    rw [List.getElem?_range hj] at hi
    exact (Option.some.inj hi).symm
  rw [this] at hf
  exact hf
theorem weights_all {H : Type} {d : DataW H} {k : Nat} : ∀ {l : List (DataW H)}, d ∈ l → k ∈ d.weights P e → k ∈ DataW.weightsAll P e l
  | [], h, _ => by cases h
  | x :: l, h, hk => by
    simp only [DataW.weightsAll, List.mem_append]
    rcases List.mem_cons.1 h with rfl | h
    · exact .inl hk
    · exact .inr (weights_all h hk)
theorem pick_list {Q : Nat → α → Prop} : ∀ n, (∀ i, i < n → ∃ y, Q i y) → ∃ l : List α, l.length = n ∧ ∀ i (h : i < l.length), Q i l[i]
  | 0, _ => ⟨[], rfl, fun i h => by cases h⟩
  | n + 1, h => by
    obtain ⟨l, hl, hq⟩ := pick_list n (fun i hi => h i (by omega))
    obtain ⟨y, hy⟩ := h n (by omega)
    refine ⟨l ++ [y], by simp [hl], fun i hi => ?_⟩
    by_cases hi' : i < l.length
    · rw [List.getElem_append_left hi']; exact hq i hi'
    · have : i = l.length := by simp at hi; omega
      subst this
      simp [hl, hy]
theorem opens_slice (g : Good sz R) (ho : Opens P e R) (hu : P.underlying t = some (.slice e)) (hc : P.cellsOf e = sz) (hpos : 0 < sz) (hb : 1 ≤ P.bytesOf e) : Opens P t (RS sz R) := by
  intro H enc W n cs x h hw
  rcases DataW.trod_slice hu h with ⟨rfl, _⟩ | ⟨a, len, cap, elems, rest, m, rfl, rfl, rfl, _, hl, _, hlen, hel, _, _⟩
  · exact ⟨[], none, 0, rfl, Nat.le_refl _, by simp, RRow.nil _⟩
  · simp only [DataW.weights, hu] at hw
    have hsz := hw _ (List.mem_cons_self ..)
    rw [List.length_map, List.length_map] at hsz
    have hbig : elems.length ≤ 140737488351232 := by
      unfold reachBytes at hsz
      have := Nat.mul_le_mul_left (elems.length + rest.length) hb
      omega
    rw [hc] at hel
    by_cases hl0 : len = 0
    · subst hl0
      exact ⟨[], some a, cap, rfl, by simp, by simp, RRow.nil _⟩
    have hs : a.spot = none := by
      have h0 := hel 0 (by omega)
      rw [List.getElem?_eq_getElem (by omega)] at h0
      cases hcs : W.cells? 0 (a.add (0 * sz)) sz with
      | none => rw [hcs] at h0; cases h0
      | some cs =>
        obtain ⟨hl2, hg⟩ := cells_get hcs
        have h9 := World.cell?_spot (hg 0 cs[0] (by simp))
        simpa [Addr.add] using h9
    obtain ⟨b, off, spot⟩ := a
    subst hs
    have key : ∀ i, i < len → ∃ y : α, ∃ cs, Now W b ∧ R (Now W) W y cs ∧ ∀ j u, cs[j]? = some u → W.cell? ⟨b, off + i * sz + j, none⟩ = some u := by
      intro i hi
      have h0 := hel i hi
      have he : elems[i]? = some (getElem elems i (by omega)) := List.getElem?_eq_getElem (by omega)
      rw [he] at h0
      cases hcs : W.cells? 0 (Addr.add ⟨b, off, none⟩ (i * sz)) sz with
      | none => rw [hcs] at h0; cases h0
      | some cs =>
        rw [hcs, Option.bind_some] at h0
        obtain ⟨y, hy⟩ := ho h0 (fun k hk => hw k (by
          refine List.mem_cons_of_mem _ (List.mem_append.2 (.inl ?_))
          exact weights_all (List.mem_map.2 ⟨_, List.getElem_mem (by omega), rfl⟩) hk))
        obtain ⟨hl2, hg⟩ := cells_get hcs
        have hc0 := hg 0 cs[0] (by simp)
        refine ⟨y, cs, ?_, hy, fun j u hu => ?_⟩
        · have := World.block_lt_of_cell? _ _ hc0
          rw [add_plain, add_plain] at this
          exact this
        · have := hg j u hu
          rw [add_plain, add_plain] at this
          exact this
    obtain ⟨l, hll, hq⟩ := pick_list len key
    refine ⟨l, some ⟨b, off, none⟩, cap, by rw [hll], by rw [hll]; exact hl, by rw [hll, ← hlen]; exact hbig, fun i hi => ?_⟩
    obtain ⟨cs, h1, h2, h3⟩ := hq i hi
    exact ⟨b, off, cs, rfl, h1, h2, h3⟩

def OpensL {γ : Type} (P : Program) (l : List Field) (o : Nat) (T : RepT γ) : Prop :=
  ∀ {H : Type} {enc : TypeId × Value → H} {W : World} {n : Nat} {cs : List Value} {xs : List (DataW H × List MemPlace)}, xs.length = l.length → (cs.length + o = (l.map fun f => P.cellsOf f.type).foldl (· + ·) o) →
    (∀ (i : Nat) (f : Field), l[i]? = some f → o ≤ f.offset ∧ DataW.trod enc P W 0 (fun _ => true) true n f.type ((cs.drop (f.offset - o)).take (P.cellsOf f.type)) = xs[i]?) →
    (∀ (i : Nat) (f : Field) (x : DataW H × List MemPlace), l[i]? = some f → xs[i]? = some x → ∀ k ∈ x.1.weights P f.type, k ≤ reachBytes) → ∃ y : γ, T (Now W) W y cs
def RNil : RepT Unit := fun _ _ _ cs => cs = []
theorem opensL_nil {o : Nat} : OpensL P [] o RNil := fun hx hl _ _ => by
  simp at hl
  exact ⟨(), hl⟩
theorem foldl_add (l : List Nat) (o : Nat) : l.foldl (· + ·) o = o + l.foldl (· + ·) 0 := by
  induction l generalizing o with
  | nil => simp
  | cons x l ih => rw [List.foldl_cons, List.foldl_cons, ih (o + x), ih (0 + x)]; omega
theorem opensL_cons {f : Field} {l : List Field} {o s1 : Nat} {S : RepT β} (g : Good s1 R) (ho : Opens P f.type R) (hs : P.cellsOf f.type = s1) (hof : f.offset = o) (hall : ∀ f' ∈ l, o + s1 ≤ f'.offset) (hl : OpensL P l (o + s1) S) : OpensL P (f :: l) o (RP R S) := by
  intro H enc W n cs xs hx hlen hel hw
  rw [List.map_cons, List.foldl_cons, foldl_add, hs] at hlen
  match xs, hx with
  | x :: xs, hx =>
    have h0 := (hel 0 f rfl).2
    rw [hof, Nat.sub_self, List.drop_zero, hs] at h0
    obtain ⟨y, hy⟩ := ho h0 (hw 0 f x rfl rfl)
    obtain ⟨z, hz⟩ := hl (cs := cs.drop s1) (xs := xs) (n := n) (enc := enc) (by simpa using hx) (by rw [List.length_drop, foldl_add]; omega) (fun i f' hf => by
      have h1 := hel (i + 1) f' (by simpa using hf)
      have h2 := hall f' (List.mem_of_getElem? hf)
      refine ⟨h2, ?_⟩
      have h3 := h1.2
      rw [List.drop_drop, show s1 + (f'.offset - (o + s1)) = f'.offset - o by omega]
      simpa using h3) (fun i f' x' hf hx' => hw (i + 1) f' x' (by simpa using hf) (by simpa using hx'))
    exact ⟨(y, z), cs.take s1, cs.drop s1, (List.take_append_drop ..).symm, hy, hz⟩
theorem opens_struct {fs : Array Field} {γ : Type} {T : RepT γ} (hu : P.underlying t = some (.struct fs)) (hc : P.cellsOf t = (fs.toList.map fun f => P.cellsOf f.type).foldl (· + ·) 0) (hT : OpensL P fs.toList 0 T) : Opens P t T := by
  intro H enc W n cs x h hw
  obtain ⟨xs, m, rfl, rfl, hl, hlen, hf⟩ := DataW.trod_struct hu h
  refine hT (xs := xs) (n := m) (enc := enc) (by simpa using hlen) (by rw [hl, hc]; rfl) (fun i f hi => ⟨Nat.zero_le _, by simpa using hf i f (by simpa using hi)⟩) (fun i f x hi hx k hk => hw k ?_)
  simp only [DataW.weights, hu]
  exact DataW.weights_mem_each (by rw [List.getElem?_map, hi]; rfl) (by rw [List.getElem?_map, hx]; rfl) k hk
theorem opens_map {γ : Type} {T : RepT γ} {f : α → γ} (h : Opens P t R) (hm : ∀ {F w x cs}, R F w x cs → T F w (f x) cs) : Opens P t T := fun h1 h2 => by
  obtain ⟨y, hy⟩ := h h1 h2
  exact ⟨f y, hm hy⟩
def RArr (n : Nat) (R : RepT α) : RepT (List α) := fun F w l cs => l.length = n ∧ CellsL R F w l cs
theorem cellsL_of {F : Nat → Prop} {w : World} (hsz : 0 < sz) : ∀ {l : List α} {cs : List Value}, cs.length = l.length * sz → (∀ i (h : i < l.length), R F w l[i] ((cs.drop (i * sz)).take sz)) → CellsL R F w l cs
  | [], cs, h, _ => by simp at h; exact h
  | x :: l, cs, h, hi => by
    refine ⟨cs.take sz, cs.drop sz, (List.take_append_drop ..).symm, (by have := hi 0 (by simp); rw [Nat.zero_mul, List.drop_zero] at this; exact this), cellsL_of hsz (by rw [List.length_drop, h, List.length_cons, Nat.add_mul]; omega) (fun i hi' => ?_)⟩
    have := hi (i + 1) (by simpa using hi')
    rw [List.drop_drop, show sz + i * sz = (i + 1) * sz by rw [Nat.add_mul]; omega]
    simpa using this
theorem opens_array {n : Nat} (ho : Opens P e R) (hu : P.underlying t = some (.array n e)) (hc : P.cellsOf e = sz) (hpos : 0 < sz) (ht : P.cellsOf t = n * sz) : Opens P t (RArr n R) := by
  intro H enc W fuel cs x h hw
  obtain ⟨xs, m, rfl, rfl, hl, hlen, hf⟩ := DataW.trod_array hu h
  rw [hc] at hf
  have key : ∀ i, i < n → ∃ y : α, R (Now W) W y ((cs.drop (i * sz)).take sz) := fun i hi => by
    have h0 := hf i hi
    rw [List.getElem?_eq_getElem (by omega)] at h0
    refine ho h0 (fun k hk => hw k ?_)
    simp only [DataW.weights, hu]
    exact weights_all (List.mem_map.2 ⟨_, List.getElem_mem (by omega), rfl⟩) hk
  obtain ⟨l, hll, hq⟩ := pick_list n key
  exact ⟨l, hll, cellsL_of hpos (by rw [hl, ht, hll]) (fun i hi => hq i hi)⟩

theorem sized {H : Type} {ts : List TypeId} {ds : List (DataW H)} (h : (DataW.weightsEach P ts ds).all (· ≤ reachBytes) = true) {j : Nat} {t : TypeId} {d : DataW H} (ht : ts[j]? = some t) (hd : ds[j]? = some d) : ∀ k ∈ d.weights P t, k ≤ reachBytes := fun k hk => by
  have := List.all_eq_true.1 h _ (DataW.weights_mem_each ht hd k hk)
  simpa using this
section
variable {H : Type} {enc : TypeId × Value → H} {W : World} {base : Nat} {v : Value} {d : DataW H} {ps : List MemPlace}
theorem open_struct {fs : Array Field} (ho : Opens P t R) (hu : P.underlying t = some (.struct fs)) (hok : Value.okWide P W .any base t v) (h : DataW.Trod enc P W 0 (fun _ => true) true t v d ps) (hw : ∀ k ∈ d.weights P t, k ≤ reachBytes) :
    ∃ x cs, v = .agg cs ∧ R (Now W) W x cs.toList := by
  simp only [Value.okWide, hu] at hok
  obtain ⟨cs, rfl, _⟩ := hok
  obtain ⟨fuel, hf⟩ := h
  obtain ⟨x, hx⟩ := ho hf hw
  exact ⟨x, cs, rfl, hx⟩
end
end
end Go.Proofs.Ythidfoohhhkobaa


namespace Go.Proofs.Ythidfoohhhkobaa
set_option linter.unusedSimpArgs false
open Go.ChangeShapes Go.WideShapes Go.ChangeAt Go.RowKit
set_option linter.unusedVariables false
abbrev ftB (F : Nat → Prop) : Ft := ⟨fun b _ => F b, F⟩
def RE {α : Type} (enc : α → List D) (ok : α → Prop) : RepT α := fun F w x cs => ok x ∧ RDL (ftB F) w (enc x) cs ∧ ∀ u ∈ cs, u.oneCell' = true
section
variable {α β : Type} {P : Program} {t e : TypeId} {sz : Nat} {enc : α → List D} {ok : α → Prop} {enc2 : β → List D} {ok2 : β → Prop} {F : Nat → Prop} {w : World}
theorem good_re (hl : ∀ x, (enc x).length = sz) : Good sz (RE enc ok) :=
  ⟨fun {F F' w w'} hF hk {x cs} h => ⟨h.1, RDL.mono (F := ftB F) (G := ftB F') ⟨fun b o hb => hF b hb, fun b hb => hF b hb⟩ (Kp.of_blocks (F := ftB F) (fun x o hx => hk x hx) (fun x hx => hk x hx)) _ _ h.2.1, h.2.2⟩,
   fun {F w x cs} h => by rw [RDL.len h.2.1, hl], fun {F w x cs} h => h.2.2⟩
theorem ore_int {k : IntKind} (hu : P.underlying t = some (.int k)) : Opens P t (RE (fun n : Int => [.c (.int k n)]) (fun n => (Lit.int k n).wf = true)) :=
  opens_map (f := fun n : Int => n) (opens_int hu) fun {F w x cs} h => ⟨h.2, by rw [h.1]; exact ⟨_, _, rfl, rfl, rfl⟩, by rw [h.1]; simp [Value.oneCell']⟩
theorem rep_re {p : α × β} {cs : List Value} (h : RP (RE enc ok) (RE enc2 ok2) F w p cs) : RE (fun p : α × β => enc p.1 ++ enc2 p.2) (fun p => ok p.1 ∧ ok2 p.2) F w p cs := by
  obtain ⟨c1, c2, rfl, h1, h2⟩ := h
  refine ⟨⟨h1.1, h2.1⟩, RDL.append h1.2.1 h2.2.1, fun u hu => ?_⟩
  rcases List.mem_append.1 hu with hu | hu
  · exact h1.2.2 u hu
  · exact h2.2.2 u hu
theorem opensL_map {γ δ : Type} {l : List Field} {o : Nat} {T : RepT γ} {U : RepT δ} {f : γ → δ} (h : OpensL P l o T) (hm : ∀ {F w x cs}, T F w x cs → U F w (f x) cs) : OpensL P l o U := fun h1 h2 h3 h4 => by
  obtain ⟨y, hy⟩ := h h1 h2 h3 h4
  exact ⟨f y, hm hy⟩
theorem oreL_nil {o : Nat} : OpensL P [] o (RE (fun _ : Unit => []) (fun _ => True)) :=
  opensL_map (f := fun u : Unit => u) opensL_nil fun {F w x cs} h => ⟨trivial, h, by rw [h]; simp⟩
theorem oreL_cons {f : Field} {l : List Field} {o s1 : Nat} (hl1 : ∀ x, (enc x).length = s1) (ho : Opens P f.type (RE enc ok)) (hs : P.cellsOf f.type = s1) (hof : f.offset = o) (hall : ∀ f' ∈ l, o + s1 ≤ f'.offset) (hl : OpensL P l (o + s1) (RE enc2 ok2)) :
    OpensL P (f :: l) o (RE (fun p : α × β => enc p.1 ++ enc2 p.2) (fun p => ok p.1 ∧ ok2 p.2)) :=
  opensL_map (f := fun p : α × β => p) (opensL_cons (good_re hl1) ho hs hof hall hl) fun {F w x cs} h => rep_re h
theorem oreL_1 {f : Field} {l : List Field} {o : Nat} (ho : Opens P f.type (RE enc ok)) (hl1 : ∀ x, (enc x).length = 1) (hs : P.cellsOf f.type = 1) (hof : f.offset = o) (hall : ∀ f' ∈ l, o + 1 ≤ f'.offset) (hl : OpensL P l (o + 1) (RE enc2 ok2)) :
    OpensL P (f :: l) o (RE (fun p : α × β => enc p.1 ++ enc2 p.2) (fun p => ok p.1 ∧ ok2 p.2)) := oreL_cons hl1 ho hs hof hall hl
theorem ore_map {f : α → β} (h : Opens P t (RE enc ok)) (he : ∀ x, enc2 (f x) = enc x) (hok : ∀ x, ok x → ok2 (f x)) : Opens P t (RE enc2 ok2) :=
  opens_map (f := f) h fun {F w x cs} h => ⟨hok _ h.1, by rw [he]; exact h.2.1, h.2.2⟩
theorem rr_of {l : List α} {a : Option Addr} (hl : ∀ x, (enc x).length = sz) (h : RRow sz (RE enc ok) F w l a) : RR (ftB F) w sz a (l.map enc) 0 ∧ ∀ x ∈ l, ok x := by
  have key : ∀ (m : List α) (n : Nat), (∀ i (hi : i < m.length), ∃ b off cs, a = some ⟨b, off, none⟩ ∧ F b ∧ RE enc ok F w m[i] cs ∧ ∀ j u, cs[j]? = some u → w.cell? ⟨b, off + (n + i) * sz + j, none⟩ = some u) → RR (ftB F) w sz a (m.map enc) (n * sz) ∧ ∀ x ∈ m, ok x := by
    intro m
    induction m with
    | nil => intro n _; exact ⟨trivial, by simp⟩
    | cons x m ih =>
      intro n h
      obtain ⟨b, off, cs, h1, h2, h3, h4⟩ := h 0 (by simp)
      have h3' : RE enc ok F w x cs := h3
      obtain ⟨k1, k2⟩ := ih (n + 1) (fun i hi => by
        obtain ⟨b', off', cs', g1, g2, g3, g4⟩ := h (i + 1) (by simpa using hi)
        exact ⟨b', off', cs', g1, g2, g3, fun j u hj => by have := g4 j u hj; rw [show n + 1 + i = n + (i + 1) by omega]; exact this⟩)
      refine ⟨⟨⟨b, off, cs, h1, h3'.2.1, by rw [RDL.len h3'.2.1, hl], h3'.2.2, fun j u hj => ⟨h2, ?_⟩⟩, ?_⟩, ?_⟩
      · have := h4 j u hj
        simpa using this
      · rw [Nat.add_mul, Nat.one_mul] at k1
        exact k1
      · intro y hy
        rcases List.mem_cons.1 hy with rfl | hy
        · exact h3'.1
        · exact k2 y hy
  have := key l 0 (fun i hi => by
    obtain ⟨b, off, cs, h1, h2, h3, h4⟩ := h i hi
    exact ⟨b, off, cs, h1, h2, h3, fun j u hj => by rw [Nat.zero_add]; exact h4 j u hj⟩)
  simpa using this
theorem ore_slice (d0 : List D) (hl : ∀ x, (enc x).length = sz) (ho : Opens P e (RE enc ok)) (hu : P.underlying t = some (.slice e)) (hc : P.cellsOf e = sz) (hpos : 0 < sz) (hb : 1 ≤ P.bytesOf e) :
    Opens P t (RE (fun l : List α => [.sl sz d0 (l.map enc)]) (fun l => l.length ≤ 140737488351232 ∧ ∀ x ∈ l, ok x)) :=
  opens_map (f := fun l : List α => l) (opens_slice (good_re hl) ho hu hc hpos hb) fun {F w x cs} h => by
    obtain ⟨a, cap, rfl, h1, h2, h3⟩ := h
    obtain ⟨k1, k2⟩ := rr_of hl h3
    refine ⟨⟨h2, k2⟩, ⟨_, _, rfl, ⟨a, cap, by rw [List.length_map], by simpa using h1, by simpa using h2, k1⟩, rfl⟩, by simp [Value.oneCell']⟩
theorem rdl_cells {n : Nat} : ∀ {l : List α} {cs : List Value}, CellsL (RE enc ok) F w l cs → RE (fun l : List α => (l.map enc).flatten) (fun l => ∀ x ∈ l, ok x) F w l cs
  | [], cs, h => by cases h; exact ⟨by simp, rfl, by simp⟩
  | x :: l, cs, h => by
    obtain ⟨c, ys, rfl, h1, h2⟩ := h
    obtain ⟨k1, k2, k3⟩ := rdl_cells (n := n) h2
    refine ⟨fun y hy => ?_, ?_, fun u hu => ?_⟩
    · rcases List.mem_cons.1 hy with rfl | hy
      · exact h1.1
      · exact k1 y hy
    · show RDL _ _ (enc x ++ (l.map enc).flatten) _
      exact RDL.append h1.2.1 k2
    · rcases List.mem_append.1 hu with hu | hu
      · exact h1.2.2 u hu
      · exact k3 u hu
theorem ore_array {n : Nat} (ho : Opens P e (RE enc ok)) (hu : P.underlying t = some (.array n e)) (hc : P.cellsOf e = sz) (hpos : 0 < sz) (ht : P.cellsOf t = n * sz) :
    Opens P t (RE (fun l : List α => (l.map enc).flatten) (fun l => l.length = n ∧ ∀ x ∈ l, ok x)) :=
  opens_map (f := fun l : List α => l) (opens_array ho hu hc hpos ht) fun {F w x cs} h => by
    obtain ⟨k1, k2, k3⟩ := rdl_cells (n := n) h.2
    exact ⟨⟨h.1, k1⟩, k2, k3⟩
abbrev ftN (w : World) : Ft := ftB (Now w)
theorem ftN_lt (w : World) : (ftN w).lt w := ⟨fun _ _ h => h, fun _ h => h⟩
variable {H : Type} {en : TypeId × Value → H} {W : World} {base : Nat} {v : Value} {d : DataW H} {ps : List MemPlace}
theorem arg_int {k : IntKind} (hu : P.underlying t = some (.int k)) (hok : Value.okWide P W .any base t v) (h : DataW.Trod en P W 0 (fun _ => true) true t v d ps) : ∃ n : Int, (Lit.int k n).wf = true ∧ RA (ftN W) W (.one (.c (.int k n))) v := by
  obtain ⟨z, rfl, rfl, rfl, wz⟩ := open_int hu hok h
  exact ⟨z, wz, rfl⟩
theorem arg_row {dd0 : List D} {ok' : List α → Prop} (ho : Opens P t (RE (fun l : List α => [.sl sz dd0 (l.map enc)]) ok')) (hu : P.underlying t = some (.slice e)) (hok : Value.okWide P W .any base t v) (h : DataW.Trod en P W 0 (fun _ => true) true t v d ps) (hw : ∀ k ∈ d.weights P t, k ≤ reachBytes) :
    ∃ l, ok' l ∧ RA (ftN W) W (.one (.sl sz dd0 (l.map enc))) v := by
  obtain ⟨a0, len, cp, rfl⟩ := okWide_slice hu hok
  obtain ⟨fuel, hf⟩ := h
  obtain ⟨l, h1, h2, h3⟩ := ho hf hw
  obtain ⟨u, r, e1, h4, h5⟩ := h2
  simp [Value.cells] at e1
  exact ⟨l, h1, by rw [e1.1]; exact h4⟩
theorem arg_struct {fs : Array Field} (ho : Opens P t (RE enc ok)) (hu : P.underlying t = some (.struct fs)) (hok : Value.okWide P W .any base t v) (h : DataW.Trod en P W 0 (fun _ => true) true t v d ps) (hw : ∀ k ∈ d.weights P t, k ≤ reachBytes) :
    ∃ x, ok x ∧ RA (ftN W) W (.agg (enc x)) v := by
  obtain ⟨x, cs, rfl, h1, h2, h3⟩ := open_struct ho hu hok h hw
  exact ⟨x, h1, cs.toList, by simp, h2, h3⟩
end
end Go.Proofs.Ythidfoohhhkobaa


namespace Go.Proofs.Ythidfoohhhkobaa
set_option linter.unusedSimpArgs false
set_option linter.unusedVariables false
open Go.ChangeShapes Go.WideShapes Go.ChangeAt Go.RowKit
theorem wf_u8h {n : Int} (h : (Lit.int .u8 n).wf = true) : 0 ≤ n ∧ n ≤ 255 := by simpa [Lit.wf, IntKind.min, IntKind.max, IntKind.signed, IntKind.bits] using h
theorem opens_byte : Opens Try.prog 5 (RE byD (fun _ => True)) :=
  opens_map (f := fun n : Int => UInt8.ofNat n.toNat) (ore_int Try.underlying5) fun {F w x cs} h => by
    have hw := wf_u8h h.1
    refine ⟨trivial, ?_, h.2.2⟩
    have e : byD (UInt8.ofNat x.toNat) = [.c (.int .u8 x)] := by
      unfold byD
      rw [UInt8.toNat_ofNat']
      congr 3
      omega
    rw [e]
    exact h.2.1
theorem opens_bytes : Opens Try.prog 23 (RE (fun l : List UInt8 => [bsD l]) (fun l => l.length ≤ 140737488351232 ∧ ∀ x ∈ l, True)) :=
  ore_slice (sz := 1) (byD 0) (by intro x; rfl) opens_byte Try.underlying23 (by kernel_rfl) (by decide) (Nat.le_of_ble_eq_true (by kernel_rfl))
theorem rootD_flat (l : List UInt8) : (l.map byD).flatten = rootD l := by
  induction l with
  | nil => rfl
  | cons b l ih => rw [List.map_cons, List.flatten_cons, ih]; rfl
theorem opens_digest : Opens Try.prog 42 (RE (fun r : Vector UInt8 32 => rootD r.toList) (fun _ => True)) :=
  opens_map (f := rootOf) (ore_array (n := 32) (sz := 1) opens_byte Try.underlying42 (by kernel_rfl) (by decide) (by kernel_rfl)) fun {F w x cs} h => by
    refine ⟨trivial, ?_, h.2.2⟩
    have e : (rootOf x).toList = x := by
      unfold rootOf
      rw [dif_pos (by simpa using h.1.1)]
      rfl
    show RDL (ftB F) w (rootD (rootOf x).toList) cs
    rw [e, ← rootD_flat]
    exact h.2.1
theorem opens_i : Opens Try.prog 3 (RE (fun n : Int => [cI n]) Cd.i64R) :=
  ore_map (f := fun n : Int => n) (ore_int Try.underlying3) (by intro x; rfl) (fun x h => wf_i64 h)
structure RunP where
  a : Int
  b : Int
  c : Int
def runD (x : RunP) : List D := [cI x.a, cI x.b, cI x.c]
theorem opens_run : Opens Try.prog 40 (RE runD (fun x => Cd.i64R x.a ∧ Cd.i64R x.b ∧ Cd.i64R x.c)) :=
  ore_map (f := fun x : Int × Int × Int × Unit => (⟨x.1, x.2.1, x.2.2.1⟩ : RunP))
    (opens_struct Try.underlying40 (by kernel_rfl)
      (oreL_1 opens_i (by intro x; rfl) (by kernel_rfl) rfl (by simp) (oreL_1 opens_i (by intro x; rfl) (by kernel_rfl) rfl (by simp) (oreL_1 opens_i (by intro x; rfl) (by kernel_rfl) rfl (by simp) oreL_nil))))
    (by intro x; rfl) (by rintro x ⟨h1, h2, h3, _⟩; exact ⟨h1, h2, h3⟩)
def sigD (x : Int × Int) : List D := [cI x.1, cI x.2]
theorem opens_sig : Opens Try.prog 44 (RE sigD (fun x => Cd.i64R x.1 ∧ Cd.i64R x.2)) :=
  ore_map (f := fun x : Int × Int × Unit => (x.1, x.2.1))
    (opens_struct Try.underlying44 (by kernel_rfl)
      (oreL_1 opens_i (by intro x; rfl) (by kernel_rfl) rfl (by simp) (oreL_1 opens_i (by intro x; rfl) (by kernel_rfl) rfl (by simp) oreL_nil)))
    (by intro x; rfl) (by rintro x ⟨h1, h2, _⟩; exact ⟨h1, h2⟩)
theorem opens_hand : Opens Try.prog 46 (RE handD hOk) :=
  ore_map (f := fun x : RunP × Int × Int × Int × Int × Vector UInt8 32 × Int × (Int × Int) × Unit => (⟨x.1.a, x.1.b, x.1.c, x.2.1, x.2.2.1, x.2.2.2.1, x.2.2.2.2.1, x.2.2.2.2.2.1, x.2.2.2.2.2.2.1, x.2.2.2.2.2.2.2.1.1, x.2.2.2.2.2.2.2.1.2⟩ : Hd))
    (opens_struct Try.underlying46 (by kernel_rfl)
      (oreL_cons (s1 := 3) (by intro x; rfl) opens_run (by kernel_rfl) rfl (by simp) (oreL_1 opens_i (by intro x; rfl) (by kernel_rfl) rfl (by simp) (oreL_1 opens_i (by intro x; rfl) (by kernel_rfl) rfl (by simp) (oreL_1 opens_i (by intro x; rfl) (by kernel_rfl) rfl (by simp) (oreL_1 opens_i (by intro x; rfl) (by kernel_rfl) rfl (by simp)
      (oreL_cons (s1 := 32) (by intro x; simp [rootD_ln]) opens_digest (by kernel_rfl) rfl (by simp) (oreL_1 opens_i (by intro x; rfl) (by kernel_rfl) rfl (by simp) (oreL_cons (s1 := 2) (by intro x; rfl) opens_sig (by kernel_rfl) rfl (by simp) oreL_nil)))))))))
    (by intro x; simp [handD, tailD, runD, sigD]) (by rintro x ⟨⟨h1, h2, h3⟩, h4, h5, h6, h7, _, h8, ⟨h9, h10⟩, _⟩; exact ⟨h1, h2, h3, h4, h5, h6, h7, h8, h9, h10⟩)
theorem opens_act : Opens Try.prog 52 (RE actD (fun a => hOk a.hand ∧ Cd.i64R a.kind)) :=
  ore_map (f := fun x : Int × Int × Int × Int × Hd × Unit => (⟨x.1, x.2.1, x.2.2.1, x.2.2.2.1, x.2.2.2.2.1⟩ : ActP))
    (opens_struct Try.underlying52 (by kernel_rfl)
      (oreL_1 opens_i (by intro x; rfl) (by kernel_rfl) rfl (by simp) (oreL_1 opens_i (by intro x; rfl) (by kernel_rfl) rfl (by simp) (oreL_1 opens_i (by intro x; rfl) (by kernel_rfl) rfl (by simp) (oreL_1 opens_i (by intro x; rfl) (by kernel_rfl) rfl (by simp)
      (oreL_cons (s1 := 42) hd_ln opens_hand (by kernel_rfl) rfl (by simp) oreL_nil))))))
    (by intro x; simp [actD]) (by rintro x ⟨h1, _, _, _, h5, _⟩; exact ⟨h5, h1⟩)
theorem opens_acts : Opens Try.prog 22 (RE (fun l : List ActP => [.sl 46 (actD default) (l.map actD)]) (fun l => l.length ≤ 140737488351232 ∧ ∀ x ∈ l, hOk x.hand ∧ Cd.i64R x.kind)) :=
  ore_slice (sz := 46) (actD default) actD_ln opens_act Try.underlying22 (by kernel_rfl) (by decide) (Nat.le_of_ble_eq_true (by kernel_rfl))

theorem Try.own : ownKnob Try.prog.godebug = none := by kernel_rfl
theorem Try.laidOut : laidOutB Try.prog = true := by kernel_rfl
end Go.Proofs.Ythidfoohhhkobaa

