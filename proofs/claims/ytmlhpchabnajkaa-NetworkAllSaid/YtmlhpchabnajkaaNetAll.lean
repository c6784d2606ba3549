/- without losses all is delivered: plainly, and the list that is kept -/
import Derived.Test.YtmlhpchabnajkaaNetOS
namespace Go.Proofs.Ytmlhpchabnajkaa
set_option linter.unusedSimpArgs false
set_option linter.unusedVariables false
open Go.RowKit
theorem wp_slot {P : Program} {c : Code} {Q : Exit → Act → World → Prop} {a : Act} {w : World} (n : Nat) (x : Value) (hn : a.tmps[n]? = some x) (h : ∀ v, v = x → c.wp P Q { a with tmps := a.tmps.setIfInBounds n v } w) : c.wp P Q a w := by
  have e : a.tmps.setIfInBounds n x = a.tmps := by
    apply Array.ext_getElem?
    intro j
    rw [Array.getElem?_setIfInBounds]
    split
    · rename_i hj
      subst hj
      rw [if_pos (Array.getElem?_eq_some_iff.1 hn).1, hn]
    · rfl
  have := h x rfl
  rw [e] at this
  exact this
theorem all_send {m : NetM} {rest : List Pkt} {p : Pkt} (h : SentInv m rest 0) (hq : m.queue = rest) (he : sendE m p = 0) : SentInv (sendN m p) (rest ++ [p]) 0 ∧ (sendN m p).queue = rest ++ [p] := by
  obtain ⟨h1, h2, _⟩ := sent_push h he
  rw [h1]
  exact ⟨h2, by rw [← hq]⟩
theorem all_lose {m : NetM} {rest : List Pkt} (h : SentInv m rest 0) (hq : m.queue = rest) {i : Nat} (hi : i < rest.length) :
    askE m i = 0 ∧ delP m i = rest[i] ∧ SentInv (loseN m i) (rest.take i ++ rest.drop (i + 1)) 0 ∧ (loseN m i).queue = rest.take i ++ rest.drop (i + 1) := by
  subst hq
  have ha : m.apart = [] := by
    cases he : m.apart with
    | nil => rfl
    | cons x l => exact absurd (h.cut (by rw [he]; simp)) (by omega)
  have hask := askE_in h.ok hi
  rw [loseN_in h.ok hi]
  refine ⟨hask, ?_, ⟨(drop_valid h.ok hi).1, fun p hp => hp, fun hne => absurd ha hne⟩, rfl⟩
  rw [delP_in h.ok hi, ha]
  rfl
section
variable {w W W' : World} {bn B : Nat} {v : Value} {sent : List Pkt} {m : NetM}
theorem SentRel.old {cuts : Nat} {c0 c1 : Value} (h : SentRel w bn B v m sent cuts c0 c1 W) : ∀ b, Now w b → DV bn v W b := fun b hb => by
  have h1 := h.lo
  have h2 := h.hi
  have hb' : b < w.heap.size := hb
  refine ⟨Nat.lt_of_lt_of_le hb h.by_.size, by omega, fun e => ?_⟩
  have := (h.sent.own_lt e).1
  omega
theorem store_parts {c0 c1 d0 d1 : Value} {m' : NetM} (hbox : Box W bn #[c0, c1] 25) (hlo : w.heap.size ≤ bn) (hhi : bn < B) (hle : B ≤ W.heap.size) (hby : Below w.heap.size w W)
    (hn : RNet (DV bn v W) W m' [d0, d1]) (hs : SentAt bn B W v sent) (hW : W' = (W.setCell ⟨bn, 0, none⟩ d0).setCell ⟨bn, 1, none⟩ d1) :
    Box W' bn #[d0, d1] 25 ∧ RNet (DV bn v W') W' m' [d0, d1] ∧ SentAt bn B W' v sent ∧ Below w.heap.size w W' ∧ B ≤ W'.heap.size ∧ W.heap.size ≤ W'.heap.size ∧ ∀ b, b ≠ bn → W'.heap[b]? = W.heap[b]? := by
  subst hW
  refine ⟨?_, good_net.keep dv_set.1 dv_set.2 (good_net.keep dv_set.1 dv_set.2 hn), (hs.set hhi 0 d0).set hhi 1 d1, (hby.setCell (by simpa using hlo) _).setCell (by simpa using hlo) _, by simpa [World.setCell] using hle, by simp [World.setCell], fun b hb => ?_⟩
  · have h := (hbox.set 0 d0).set 1 d1
    simpa using h
  · rw [Below.heap_setCell _ _ _ _ (by show b ≠ bn; exact hb), Below.heap_setCell _ _ _ _ (by show b ≠ bn; exact hb)]
def NB (bn : Nat) (W : World) : Nat → Prop := fun b => b < W.heap.size ∧ b ≠ bn
theorem SentAt.rowF {a : Option Addr} {cap : Nat} (h : SentAt bn B W (.slice a sent.length cap) sent) (hB : bn < B) : sent.length ≤ cap ∧ RRow 3 RPk (NB bn W) W sent a := by
  obtain ⟨xs, h1, h2⟩ := h
  have hlt := h1.lt
  have hcells := fun g hg => h1.cells (g := g) hg
  rcases h1.2 with ⟨hv, hn⟩ | ⟨gb, cap', cur, hv, _, _, h4, _⟩
  · have : sent = [] := List.eq_nil_of_length_eq_zero hn
    subst this
    exact ⟨Nat.zero_le _, RRow.nil _⟩
  · cases hv
    refine ⟨h4, ?_⟩
    have ho : (Value.slice (some ⟨gb, 0, none⟩) sent.length cap).ownBlock = some gb := rfl
    have hcl := h2.keep (F' := NB bn W) (w' := W) good_pk (fun b hb => ⟨hb.1, hb.2.1⟩) (fun _ _ => rfl)
    refine hcl.row good_pk (show NB bn W gb from ⟨(hlt gb ho).2, by have := (hlt gb ho).1; omega⟩) (fun j u hu => ?_)
    have := hcells gb ho j u hu
    rw [Nat.zero_add]
    by_cases hj : j = 0
    · subst hj; simpa [Addr.add] using this
    · simpa [Addr.add, hj] using this
theorem owns_base {B0 : Nat} {e : TypeId} {sz n : Nat} {xs : List Value} (h : W.ownsRow B0 e sz v n xs) (hB : B ≤ B0) : W.ownsRow B e sz v n xs := by
  refine ⟨h.1, ?_⟩
  rcases h.2 with h2 | ⟨gb, cap, cur, e1, e2, e3⟩
  · exact .inl h2
  · exact .inr ⟨gb, cap, cur, e1, Nat.le_trans hB e2, e3⟩
theorem SentAt.of_new (h : OwnN RPk 3 28 W.heap.size (NB bn W) sent v W') (hB : B ≤ W.heap.size) : SentAt bn B W' v sent ∧ ∀ u b, DV bn u W b → DV bn v W' b := by
  obtain ⟨h0, hF, xs, h1, h2⟩ := h
  have hne : ∀ b, b < W.heap.size → v.ownBlock ≠ some b := fun b hb e => by have := (h1.lt b e).1; omega
  exact ⟨⟨xs, owns_base h1 hB, h2.keep good_pk (fun b hb => ⟨Nat.lt_of_lt_of_le hb.1 h0, hb.2, hne b hb.1⟩) (fun _ _ => rfl)⟩, fun u b hb => ⟨Nat.lt_of_lt_of_le hb.1 h0, hb.2.1, hne b hb.1⟩⟩
end
end Go.Proofs.Ytmlhpchabnajkaa
