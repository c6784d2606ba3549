/- opening a value, and a row of values -/
import Derived.Test.YtedkoifbjmemdaaOpenB
import Derived.SizedLaws
namespace Go.Proofs.Ytedkoifbjmemdaa
open Go.ChangeShapes Go.WideShapes Go.ChangeAt Go.RowKit
theorem Try.cells3 : Try.prog.cellsOf 3 = 1 := by kernel_rfl
theorem Try.cells9 : Try.prog.cellsOf 9 = 1 := by kernel_rfl
theorem Try.cells22 : Try.prog.cellsOf 22 = 1 := by kernel_rfl
theorem Try.cells24 : Try.prog.cellsOf 24 = 4 := by kernel_rfl
theorem Try.bytes24 : Try.prog.bytesOf 24 = 56 := by kernel_rfl
theorem wf_i64 {n : Int} (h : (Lit.int .i64 n).wf = true) : i64R n := by
  have : -9223372036854775808 ≤ n ∧ n ≤ 9223372036854775807 := by simpa [Lit.wf, IntKind.min, IntKind.max, IntKind.signed, IntKind.bits] using h
  exact this
theorem cells4 {w : World} {b off : Nat} {cs : List Value} (h : w.cells? 0 ⟨b, off, none⟩ 4 = some cs) : ∃ c0 c1 c2 c3, cs = [c0, c1, c2, c3] ∧ w.cell? ⟨b, off, none⟩ = some c0 ∧ w.cell? ⟨b, off + 1, none⟩ = some c1 ∧ w.cell? ⟨b, off + 2, none⟩ = some c2 ∧ w.cell? ⟨b, off + 3, none⟩ = some c3 := by
  unfold World.cells? at h
  rw [if_pos (Nat.zero_le _)] at h
  have hr : List.range 4 = [0, 1, 2, 3] := by decide
  rw [hr] at h
  simp only [List.mapM_cons, List.mapM_nil, Option.bind_eq_bind, Option.pure_def] at h
  simp only [add_plain, Nat.add_zero] at h
  cases h0 : w.cell? ⟨b, off, none⟩ with
  | none => rw [h0] at h; cases h
  | some c0 =>
    cases h1 : w.cell? ⟨b, off + 1, none⟩ with
    | none => rw [h0, h1] at h; cases h
    | some c1 =>
      cases h2 : w.cell? ⟨b, off + 2, none⟩ with
      | none => rw [h0, h1, h2] at h; cases h
      | some c2 =>
        cases h3 : w.cell? ⟨b, off + 3, none⟩ with
        | none => rw [h0, h1, h2, h3] at h; cases h
        | some c3 =>
          rw [h0, h1, h2, h3] at h
          cases h
          exact ⟨c0, c1, c2, c3, rfl, rfl, rfl, rfl, rfl⟩
theorem spot4 {w : World} {a : Addr} {cs : List Value} (h : w.cells? 0 a 4 = some cs) : a.spot = none := by
  unfold World.cells? at h
  rw [if_pos (Nat.zero_le _)] at h
  have hr : List.range 4 = [0, 1, 2, 3] := by decide
  rw [hr] at h
  simp only [List.mapM_cons, Option.bind_eq_bind] at h
  cases h0 : w.cell? (a.add 0) with
  | none => rw [h0] at h; cases h
  | some c0 => simpa [Addr.add] using World.cell?_spot h0
/-- a row of values out of their readings -/
theorem repL_of {H : Type} {enc : TypeId × Value → H} {W : World} {n : Nat} (IH : ∀ {cs : List Value} {x : DataW H × List MemPlace}, DataW.trod enc Try.prog W 0 (fun _ => true) true n 24 cs = some x → (∀ m ∈ x.1.weights Try.prog 24, m ≤ reachBytes) → ∃ v : V, RepV W v (.agg cs.toArray))
    (b off : Nat) (elems : List (DataW H × List MemPlace))
    (hel : ∀ i, i < elems.length → (W.cells? 0 ⟨b, off + i * 4, none⟩ 4).bind (DataW.trod enc Try.prog W 0 (fun _ => true) true n 24) = elems[i]?)
    (hw : ∀ y ∈ elems, ∀ m ∈ y.1.weights Try.prog 24, m ≤ reachBytes) :
    ∃ l : List V, l.length = elems.length ∧ RepL W l (some ⟨b, off, none⟩) := by
  induction elems generalizing off with
  | nil => exact ⟨[], rfl, by simp only [RepL]⟩
  | cons y ys ih =>
    obtain ⟨l, hl, hr⟩ := ih (off + 4) (fun i hi => by
      have := hel (i + 1) (by rw [List.length_cons]; omega)
      rw [List.getElem?_cons_succ] at this
      rw [← this]
      congr 2
      simp only [Addr.mk.injEq, true_and, and_true]
      omega) (fun z hz => hw z (List.mem_cons_of_mem _ hz))
    have h0 := hel 0 (by rw [List.length_cons]; omega)
    rw [Nat.zero_mul, Nat.add_zero, List.getElem?_cons_zero] at h0
    cases hc : W.cells? 0 ⟨b, off, none⟩ 4 with
    | none => rw [hc] at h0; cases h0
    | some cs =>
      rw [hc, Option.bind_some] at h0
      obtain ⟨v, hv⟩ := IH h0 (hw y (by simp))
      obtain ⟨c0, c1, c2, c3, rfl, e0, e1, e2, e3⟩ := cells4 hc
      refine ⟨v :: l, by rw [List.length_cons, List.length_cons, hl], ?_⟩
      simp only [RepL]
      exact ⟨b, off, c0, c1, c2, c3, rfl, e0, e1, e2, e3, hv, hr⟩
theorem weights_all {H : Type} {P : Program} {e : TypeId} {d : DataW H} {k : Nat} : ∀ {l : List (DataW H)}, d ∈ l → k ∈ d.weights P e → k ∈ DataW.weightsAll P e l
  | [], h, _ => by cases h
  | x :: l, h, hk => by
    simp only [DataW.weightsAll, List.mem_append]
    rcases List.mem_cons.1 h with rfl | h
    · exact .inl hk
    · exact .inr (weights_all h hk)
/-- what lies in a slice of values -/
theorem open_slice {H : Type} {enc : TypeId × Value → H} {W : World} {n : Nat} (IH : ∀ m, m < n → ∀ {cs : List Value} {x : DataW H × List MemPlace}, DataW.trod enc Try.prog W 0 (fun _ => true) true m 24 cs = some x → (∀ k ∈ x.1.weights Try.prog 24, k ≤ reachBytes) → ∃ v : V, RepV W v (.agg cs.toArray))
    {cs : List Value} {x : DataW H × List MemPlace} (h : DataW.trod enc Try.prog W 0 (fun _ => true) true n 22 cs = some x) (hw : ∀ k ∈ x.1.weights Try.prog 22, k ≤ reachBytes) :
    ∃ a l cap, cs = [.slice a l.length cap] ∧ l.length ≤ cap ∧ l.length ≤ 140737488351232 ∧ RepL W l a := by
  rcases DataW.trod_slice Try.underlying22 h with ⟨rfl, _⟩ | ⟨a, len, cap, elems, rest, m, rfl, rfl, rfl, _, hl, _, hlen, hel, _, _⟩
  · exact ⟨none, [], 0, rfl, Nat.le_refl _, by simp, by simp only [RepL]⟩
  · simp only [DataW.weights, Try.underlying22] at hw
    have hsz := hw _ (List.mem_cons_self ..)
    rw [Try.bytes24, List.length_map, List.length_map] at hsz
    have hbig : elems.length ≤ 140737488351232 := by unfold reachBytes at hsz; omega
    rw [Try.cells24] at hel
    cases elems with
    | nil =>
      simp only [List.length_nil] at hlen
      subst hlen
      exact ⟨some a, [], cap, rfl, hl, by simp, by simp only [RepL]⟩
    | cons y ys =>
      have h0 := hel 0 (by rw [← hlen, List.length_cons]; omega)
      rw [List.getElem?_cons_zero] at h0
      have hs : a.spot = none := by
        cases hc : W.cells? 0 (a.add (0 * 4)) 4 with
        | none => rw [hc] at h0; cases h0
        | some cs => simpa [Addr.add] using spot4 hc
      obtain ⟨b, off, spot⟩ := a
      subst hs
      obtain ⟨l, hll, hr⟩ := repL_of (n := m) (fun {cs x} => IH m (Nat.lt_succ_self m) (cs := cs) (x := x)) b off (y :: ys) (fun i hi => by
        rw [← hel i (by rw [← hlen]; exact hi), add_plain]) (fun z hz k hk => hw k (by
          refine List.mem_cons_of_mem _ (List.mem_append.2 (.inl ?_))
          exact weights_all (List.mem_map.2 ⟨z, hz, rfl⟩) hk))
      rw [hlen] at hll
      exact ⟨some ⟨b, off, none⟩, l, cap, by rw [hll], by rw [hll]; exact hl, by rw [hll, ← hlen]; exact hbig, hr⟩
theorem open_val {H : Type} {enc : TypeId × Value → H} {W : World} (n : Nat) : ∀ {cs : List Value} {x : DataW H × List MemPlace}, DataW.trod enc Try.prog W 0 (fun _ => true) true n 24 cs = some x → (∀ k ∈ x.1.weights Try.prog 24, k ≤ reachBytes) → ∃ v : V, RepV W v (.agg cs.toArray) := by
  induction n using Nat.strongRecOn with
  | _ n ih =>
    intro cs x h hw
    obtain ⟨xs, m, rfl, rfl, hl, hlen, hf⟩ := DataW.trod_struct Try.underlying24 h
    rw [Try.cells24] at hl
    match cs, hl with
    | [c0, c1, c2, c3], _ =>
      match xs, hlen with
      | [y0, y1, y2, y3], _ =>
        have h0 : DataW.trod enc Try.prog W 0 (fun _ => true) true m 3 [c0] = some y0 := by simpa [Try.cells3] using hf 0 _ rfl
        have h1 : DataW.trod enc Try.prog W 0 (fun _ => true) true m 3 [c1] = some y1 := by simpa [Try.cells3] using hf 1 _ rfl
        have h2 : DataW.trod enc Try.prog W 0 (fun _ => true) true m 9 [c2] = some y2 := by simpa [Try.cells9] using hf 2 _ rfl
        have h3 : DataW.trod enc Try.prog W 0 (fun _ => true) true m 22 [c3] = some y3 := by simpa [Try.cells22] using hf 3 _ rfl
        obtain ⟨k, e0, rfl, w0⟩ := DataW.trod_int Try.underlying3 h0
        obtain ⟨j, e1, rfl, w1⟩ := DataW.trod_int Try.underlying3 h1
        obtain ⟨s, e2, rfl, _⟩ := DataW.trod_string Try.underlying9 h2
        cases e0
        cases e1
        cases e2
        simp only [DataW.weights, Try.underlying24, List.map_cons, List.map_nil, DataW.weightsEach, List.nil_append, List.append_nil] at hw
        have hs : s.data.toList.length ≤ reachBytes := hw _ (by simp)
        obtain ⟨a, l, cap, e3, hlc, hlb, hr⟩ := open_slice (n := m) (fun p hp => ih p (by omega)) h3 (fun q hq => hw q (by simp [hq]))
        cases e3
        refine ⟨.mk k j s.data.toList l, ?_⟩
        simp only [RepV]
        refine ⟨a, cap, rfl, wf_i64 w0, wf_i64 w1, ?_, hlc, hlb, hr⟩
        unfold reachBytes at hs
        omega
theorem sized {H : Type} {P : Program} {ts : List TypeId} {ds : List (DataW H)} (h : (DataW.weightsEach P ts ds).all (· ≤ reachBytes) = true) {j : Nat} {t : TypeId} {d : DataW H} (ht : ts[j]? = some t) (hd : ds[j]? = some d) : ∀ k ∈ d.weights P t, k ≤ reachBytes := fun k hk => by
  have := List.all_eq_true.1 h _ (DataW.weights_mem_each ht hd k hk)
  simpa using this
theorem open_value {H : Type} {enc : TypeId × Value → H} {W : World} {base : Nat} {c : Value} {d : DataW H} {ps : List MemPlace} (hok : Value.okWide Try.prog W .any base 24 c) (h : DataW.Trod enc Try.prog W 0 (fun _ => true) true 24 c d ps) (hw : ∀ k ∈ d.weights Try.prog 24, k ≤ reachBytes) : ∃ v, RepV W v c := by
  simp only [Value.okWide, Try.underlying24] at hok
  obtain ⟨cs, rfl, _⟩ := hok
  obtain ⟨fuel, hf⟩ := h
  obtain ⟨v, hv⟩ := open_val fuel hf hw
  exact ⟨v, by simpa [Value.cells] using hv⟩
theorem open_values {H : Type} {enc : TypeId × Value → H} {W : World} {base : Nat} {c : Value} {d : DataW H} {ps : List MemPlace} (hok : Value.okWide Try.prog W .any base 22 c) (h : DataW.Trod enc Try.prog W 0 (fun _ => true) true 22 c d ps) (hw : ∀ k ∈ d.weights Try.prog 22, k ≤ reachBytes) :
    ∃ a l cap, c = .slice a l.length cap ∧ l.length ≤ cap ∧ l.length ≤ 140737488351232 ∧ RepL W l a := by
  obtain ⟨a0, len, cp, rfl⟩ := okWide_slice Try.underlying22 hok
  obtain ⟨fuel, hf⟩ := h
  obtain ⟨a, l, cap, e, h1, h2, h3⟩ := open_slice (n := fuel) (fun m _ => open_val m) hf hw
  simp [Value.cells] at e
  obtain ⟨rfl, rfl, rfl⟩ := e
  exact ⟨_, l, _, rfl, h1, h2, h3⟩
end Go.Proofs.Ytedkoifbjmemdaa
