/- the list of what has been sent: a row of the call's own beside the links' variable -/
import Derived.Test.YtmlhpchabnajkaaNet22
import Derived.Test.YtmlhpchabnajkaaPush
import Derived.Test.YtmlhpchabnajkaaNetSent
namespace Go.Proofs.Ytmlhpchabnajkaa
set_option linter.unusedSimpArgs false
set_option linter.unusedVariables false
open Go.RowKit
def DV (bn : Nat) (v : Value) (W : World) : Nat → Prop := fun b => b < W.heap.size ∧ b ≠ bn ∧ v.ownBlock ≠ some b
def SentAt (bn B : Nat) (W : World) (v : Value) (sent : List Pkt) : Prop := ∃ xs, W.ownsRow B 28 3 v sent.length xs ∧ CellsL RPk (DV bn v W) W sent xs
section
variable {w W W' : World} {bn B : Nat} {v : Value} {sent : List Pkt} {m : NetM} {cs : List Value}
theorem dv_below (hb : Below W.heap.size W W') : (∀ b, DV bn v W b → DV bn v W' b) ∧ (∀ b, DV bn v W b → W'.heap[b]? = W.heap[b]?) := ⟨fun b h => ⟨Nat.lt_of_lt_of_le h.1 hb.size, h.2⟩, fun b h => hb.block b h.1⟩
theorem SentAt.below (h : SentAt bn B W v sent) (hb : Below W.heap.size W W') : SentAt bn B W' v sent := by
  obtain ⟨xs, h1, h2⟩ := h
  exact ⟨xs, own_later h1 hb, h2.keep good_pk (dv_below hb).1 (dv_below hb).2⟩
theorem dv_set {o : Nat} {u : Value} : (∀ b, DV bn v W b → DV bn v (W.setCell ⟨bn, o, none⟩ u) b) ∧ (∀ b, DV bn v W b → (W.setCell ⟨bn, o, none⟩ u).heap[b]? = W.heap[b]?) :=
  ⟨fun b h => ⟨by simpa [World.setCell] using h.1, h.2⟩, fun b h => Below.heap_setCell _ _ _ _ (by show b ≠ bn; exact h.2.1)⟩
theorem SentAt.set (h : SentAt bn B W v sent) (hB : bn < B) (o : Nat) (u : Value) : SentAt bn B (W.setCell ⟨bn, o, none⟩ u) v sent := by
  obtain ⟨xs, h1, h2⟩ := h
  exact ⟨xs, ownsRow_setCell_below h1 (a := ⟨bn, o, none⟩) hB u, h2.keep good_pk dv_set.1 dv_set.2⟩
theorem SentAt.own_lt (h : SentAt bn B W v sent) {g : Nat} (hg : v.ownBlock = some g) : B ≤ g ∧ g < W.heap.size := by
  obtain ⟨xs, h1, _⟩ := h; exact h1.lt g hg
structure SentRel (w : World) (bn B : Nat) (v : Value) (m : NetM) (sent : List Pkt) (cuts : Nat) (c0 c1 : Value) (W : World) : Prop where
  inv : SentInv m sent cuts
  box : Box W bn #[c0, c1] 25
  net : RNet (DV bn v W) W m [c0, c1]
  sent : SentAt bn B W v sent
  by_ : Below w.heap.size w W
  lo : w.heap.size ≤ bn
  hi : bn < B
  le : B ≤ W.heap.size
theorem SentRel.below {cuts : Nat} {c0 c1 : Value} (h : SentRel w bn B v m sent cuts c0 c1 W) (hb : Below W.heap.size W W') : SentRel w bn B v m sent cuts c0 c1 W' :=
  ⟨h.inv, h.box.below hb, good_net.keep (dv_below hb).1 (dv_below hb).2 h.net, h.sent.below hb, h.by_.trans (hb.mono h.by_.size), h.lo, h.hi, Nat.le_trans h.le hb.size⟩
/-- n = x -/
theorem SentRel.store {cuts' : Nat} {c0 c1 d0 d1 : Value} {m' : NetM} {v' : Value} {sent' : List Pkt} (hbox : Box W bn #[c0, c1] 25) (hlo : w.heap.size ≤ bn) (hhi : bn < B) (hle : B ≤ W.heap.size) (hby : Below w.heap.size w W)
    (hi : SentInv m' sent' cuts') (hn : RNet (DV bn v' W) W m' [d0, d1]) (hs : SentAt bn B W v' sent') : SentRel w bn B v' m' sent' cuts' d0 d1 ((W.setCell ⟨bn, 0, none⟩ d0).setCell ⟨bn, 1, none⟩ d1) := by
  refine ⟨hi, ?_, ?_, (hs.set hhi 0 d0).set hhi 1 d1, (hby.setCell (by simpa using hlo) _).setCell (by simpa using hlo) _, hlo, hhi, by simpa [World.setCell] using hle⟩
  · have h := (hbox.set 0 d0).set 1 d1
    simpa using h
  · exact good_net.keep dv_set.1 dv_set.2 (good_net.keep dv_set.1 dv_set.2 hn)
/-- sent = append(sent, p) -/
theorem SentAt.push {p : Pkt} {cs : Array Value} (h : SentAt bn B W v sent) (hx : RPk (DV bn v W) W p cs.toList) (hB : B ≤ W.heap.size) :
    ∃ xs, (W.alloc (.cells cs 28)).ownsRow B 28 3 v sent.length xs ∧ (∀ j u, cs.toList[j]? = some u → (W.alloc (.cells cs 28)).cell? ((⟨W.heap.size, 0, none⟩ : Addr).add j) = some u) ∧ cs.toList.length = 1 * 3 ∧ (∀ u ∈ cs.toList, u.oneCell' = true) ∧
      ∀ v' w', Grew B 28 3 (W.alloc (.cells cs 28)) v v' (sent.length + 1) (xs ++ cs.toList) w' →
        SentAt bn B w' v' (sent ++ [p]) ∧ Below B W w' ∧ (∀ b, b < W.heap.size → v.ownBlock ≠ some b → w'.heap[b]? = W.heap[b]?) ∧ (∀ b, DV bn v W b → DV bn v' w' b) := by
  obtain ⟨xs, h1, h2⟩ := h
  have hb := below_new1 W (.cells cs 28)
  refine ⟨xs, own_later h1 hb, World.news_of_block (cs := cs) (t := 28) (fr := (0, 0)) (heap_alloc_new W _), by rw [good_pk.len hx], good_pk.one hx, fun v' w' hg => ?_⟩
  have hk : ∀ b, b < W.heap.size → v.ownBlock ≠ some b → w'.heap[b]? = W.heap[b]? := fun b h3 h4 => (hg.other (Nat.lt_of_lt_of_le h3 hb.size) h4).trans (hb.block b h3)
  have hd : ∀ b, DV bn v W b → DV bn v' w' b := fun b h3 => ⟨Nat.lt_of_lt_of_le (Nat.lt_of_lt_of_le h3.1 hb.size) hg.by_.size, h3.2.1, fun e => by
    rcases hg.new b e with h4 | h4
    · have := h3.1; have := hb.size; omega
    · exact h3.2.2 h4⟩
  refine ⟨⟨xs ++ cs.toList, by rw [List.length_append]; exact hg.own, (h2.keep good_pk hd (fun b h => hk b h.1 h.2.2)).append (CellsL.single (good_pk.keep hd (fun b h => hk b h.1 h.2.2) hx))⟩, (hb.mono hB).trans (hg.below (Nat.le_trans hB hb.size) fun k hk => (h1.lt k hk).1), hk, hd⟩
/-- for reading -/
theorem SentAt.row (h : SentAt bn B W v sent) : ∃ a cap, v = .slice a sent.length cap ∧ sent.length ≤ cap ∧ Row 3 RPk W sent a := by
  obtain ⟨xs, h1, h2⟩ := h
  have hlt := h1.lt
  have hcells := fun g hg => h1.cells (g := g) hg
  rcases h1.2 with ⟨hv, hn⟩ | ⟨gb, cap, cur, hv, _, _, h4, _⟩
  · have : sent = [] := List.eq_nil_of_length_eq_zero hn
    subst this
    exact ⟨none, 0, hv, Nat.le_refl _, RRow.nil _⟩
  · have ho : v.ownBlock = some gb := by rw [hv]; rfl
    refine ⟨_, cap, hv, h4, ?_⟩
    have hcl := h2.keep (F' := Now W) (w' := W) good_pk (fun b hb => hb.1) (fun _ _ => rfl)
    refine hcl.row good_pk (show Now W gb from (hlt gb ho).2) (fun j u hu => ?_)
    have := hcells gb ho j u hu
    rw [Nat.zero_add]
    by_cases hj : j = 0
    · subst hj; simpa [Addr.add] using this
    · simpa [Addr.add, hj] using this
theorem sent_nil (bn B : Nat) (W : World) : SentAt bn B W (.slice none 0 0) [] := ⟨[], World.ownsRow_nil .., rfl⟩
theorem net_cells {w : World} {n : NetM} {cs : List Value} {F : Nat → Prop} (h : RNet F w n cs) : ∃ qa qc aa ac, cs = [.slice qa n.queue.length qc, .slice aa n.apart.length ac] := by obtain ⟨qa, qc, aa, ac, e, _⟩ := h; exact ⟨qa, qc, aa, ac, e⟩
theorem net_queue {w : World} {n : NetM} {F : Nat → Prop} {qa : Option Addr} {qc : Nat} {aa : Option Addr} {ac : Nat} (h : RNet F w n [.slice qa n.queue.length qc, .slice aa n.apart.length ac]) : n.queue.length ≤ 140737488351232 ∧ RRow 3 RPk F w n.queue qa := by
  obtain ⟨_, _, _, _, e, _, h1, h2, _⟩ := h
  cases e
  exact ⟨h1, h2⟩
/-- where a call's results lie -/
theorem SentRel.dv_call {cuts : Nat} {c0 c1 : Value} {wr V W : World} {D : Nat → Prop} (h : SentRel w bn B v m sent cuts c0 c1 wr) (hD : ∀ b, D b → (DV bn v wr b ∨ wr.heap.size ≤ b) ∧ b < V.heap.size) (hs : V.heap.size ≤ W.heap.size) : ∀ b, D b → DV bn v W b := fun b hb => by
  obtain ⟨h1, h2⟩ := hD b hb
  have := h.hi
  have := h.le
  refine ⟨Nat.lt_of_lt_of_le h2 hs, ?_, ?_⟩
  · rcases h1 with h1 | h1
    · exact h1.2.1
    · omega
  · rcases h1 with h1 | h1
    · exact h1.2.2
    · intro e
      have := (h.sent.own_lt e).2
      omega
end
def RMv : RepT Mv := fun _ _ m cs => cs = [byteV m.kind, byteV m.at_, byteV m.a, byteV m.b, byteV m.data]
theorem good_mv : Good 5 RMv := ⟨fun _ _ _ _ h => h, fun h => by rw [h]; rfl, fun h => by rw [h]; simp [byteV, Value.oneCell']⟩
end Go.Proofs.Ytmlhpchabnajkaa
