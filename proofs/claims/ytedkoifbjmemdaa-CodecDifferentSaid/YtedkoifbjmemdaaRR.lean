/- frankingref01: the reader's bytes and numbers -/
import Derived.Test.YtedkoifbjmemdaaDec
namespace Go.Proofs.Ytedkoifbjmemdaa
open Go.RowKit
attribute [local go_sem ↓] Go.wp_at_zero Go.wp_at_succ
/-- the reader of the reference in block R -/
def RRa (w : World) (R : Nat) (a : Option Addr) (cap : Nat) (bs : List UInt8) (at_ : Nat) (bad : Bool) : Prop :=
  w.heap[R]? = some (.cells #[.slice a bs.length cap, .int .i64 at_, .bool bad] 62 (0, 0)) ∧ bs.length ≤ cap ∧ bs.length ≤ 1000000 ∧ Bytes w a bs ∧ (∀ ad, a = some ad → ad.block < R) ∧ at_ ≤ bs.length
def RR (w : World) (R : Nat) (bs : List UInt8) (at_ : Nat) (bad : Bool) : Prop := ∃ a cap, RRa w R a cap bs at_ bad
theorem RRa.cells {w : World} {R : Nat} {a : Option Addr} {cap : Nat} {bs : List UInt8} {at_ : Nat} {bad : Bool} (h : RRa w R a cap bs at_ bad) :
    w.cell? ⟨R, 0, none⟩ = some (.slice a bs.length cap) ∧ w.cell? ⟨R, 1, none⟩ = some (.int .i64 at_) ∧ w.cell? ⟨R, 2, none⟩ = some (.bool bad) ∧ w.frozen? ⟨R, 1, none⟩ = false ∧ w.frozen? ⟨R, 2, none⟩ = false := by
  obtain ⟨h, _⟩ := h
  simp [World.cell?, World.frozen?, h]
theorem RRa.lt {w : World} {R : Nat} {a : Option Addr} {cap : Nat} {bs : List UInt8} {at_ : Nat} {bad : Bool} (h : RRa w R a cap bs at_ bad) : R < w.heap.size := (Array.getElem?_eq_some_iff.1 h.1).1
theorem RR.lt {w : World} {R : Nat} {bs : List UInt8} {at_ : Nat} {bad : Bool} (h : RR w R bs at_ bad) : R < w.heap.size := by
  obtain ⟨a, cap, h⟩ := h; exact h.lt
theorem RR.keep {w w' : World} {R : Nat} {bs : List UInt8} {at_ : Nat} {bad : Bool} (h : RR w R bs at_ bad) (hk : ∀ b, b ≤ R → w'.heap[b]? = w.heap[b]?) : RR w' R bs at_ bad := by
  obtain ⟨a, cap, hB, hl, hcap, hby, hlt, hat⟩ := h
  refine ⟨a, cap, (hk R (Nat.le_refl _)).trans hB, hl, hcap, ?_, hlt, hat⟩
  rcases hby with h | ⟨b, off, rfl, hc⟩
  · exact .inl h
  · have hb : b < R := hlt _ rfl
    exact .inr ⟨b, off, rfl, fun i hi => (World.cell?_of_block (w := w) (w' := w') (a := ⟨b, off + i, none⟩) (hk b (by omega))).trans (hc i hi)⟩
theorem RR.alloc {w : World} {R : Nat} {bs : List UInt8} {at_ : Nat} {bad : Bool} (h : RR w R bs at_ bad) (o : Obj) : RR (w.alloc o) R bs at_ bad :=
  h.keep fun b hb => Below.heap_alloc w o b (by have := h.lt; omega)
theorem RR.set {w : World} {R : Nat} {bs : List UInt8} {at_ : Nat} {bad : Bool} (h : RR w R bs at_ bad) (X o : Nat) (u : Value) (hX : R < X) : RR (w.setCell ⟨X, o, none⟩ u) R bs at_ bad :=
  h.keep fun b hb => setCell_other w X o u b (by omega)
theorem bytes_setR {w : World} {R o : Nat} {a : Option Addr} {bs : List UInt8} {u : Value} (h : Bytes w a bs) (hlt : ∀ ad, a = some ad → ad.block < R) : Bytes (w.setCell ⟨R, o, none⟩ u) a bs := by
  rcases h with h | ⟨b, off, rfl, hc⟩
  · exact .inl h
  · have hb : b < R := hlt _ rfl
    exact .inr ⟨b, off, rfl, fun i hi => (World.cell?_of_block (w := w) (a := ⟨b, off + i, none⟩) (setCell_other w R o u b (by omega))).trans (hc i hi)⟩
theorem RRa.setAt {w : World} {R : Nat} {a : Option Addr} {cap : Nat} {bs : List UInt8} {at_ : Nat} {bad : Bool} (h : RRa w R a cap bs at_ bad) (at' : Nat) (ha : at' ≤ bs.length) : RRa (w.setCell ⟨R, 1, none⟩ (.int .i64 at')) R a cap bs at' bad := by
  obtain ⟨hB, hl, hcap, hby, hlt, hat⟩ := h
  refine ⟨?_, hl, hcap, bytes_setR hby hlt, hlt, ha⟩
  simp only [World.setCell, Array.getElem?_modify, hB]; simp
theorem RRa.setBad {w : World} {R : Nat} {a : Option Addr} {cap : Nat} {bs : List UInt8} {at_ : Nat} {bad : Bool} (h : RRa w R a cap bs at_ bad) (b' : Bool) : RRa (w.setCell ⟨R, 2, none⟩ (.bool b')) R a cap bs at_ b' := by
  obtain ⟨hB, hl, hcap, hby, hlt, hat⟩ := h
  refine ⟨?_, hl, hcap, bytes_setR hby hlt, hlt, hat⟩
  simp only [World.setCell, Array.getElem?_modify, hB]; simp
theorem RRa.drewN {w : World} {R : Nat} {a : Option Addr} {cap : Nat} {bs : List UInt8} {at_ : Nat} {bad : Bool} (h : RRa w R a cap bs at_ bad) (n : Nat) : RRa (w.drewN n) R a cap bs at_ bad := h
theorem grownBy_drewN {a w : World} {row : Option Nat} (h : a.grownBy w row) (n : Nat) : a.grownBy (w.drewN n) row := ⟨h.os, h.tape, h.output, h.size, h.block⟩
theorem grownBy_setR {a w : World} {R : Nat} (h : a.grownBy w (some R)) (o : Nat) (u : Value) : a.grownBy (w.setCell ⟨R, o, none⟩ u) (some R) :=
  h.andThen (row' := some R) ⟨rfl, rfl, rfl, by simp [World.setCell], fun k _ hk => setCell_other w R o u k (fun e => hk (by rw [e]))⟩ (fun j hj => .inr hj)
set_option maxRecDepth 100000 in
set_option maxHeartbeats 1000000 in
theorem next_end (R : Nat) (bs : List UInt8) (bad : Bool) (w : World) (hr : RR w R bs bs.length bad) :
    Calls Try.prog 48 #[.pointer (some ⟨R, 0, none⟩)] w fun e w' => e = .returned (.int .u8 0) ∧ RR w' R bs bs.length true ∧ w.grownBy w' (some R) := by
  obtain ⟨a, cap, hr⟩ := hr
  obtain ⟨x0, x1, x2, f1, f2⟩ := hr.cells
  have HR := Lib.hid hr
  clear hr
  go_enter Try.func48, Try.ntmps48
  go_wp2_with fail
  go_quiet (fail)
  go_wp2
  go_ret
  exact ⟨rfl, ⟨a, cap, (HR.out.drewN nq).setBad true⟩, grownBy_setR (grownBy_drewN (grownBy_refl _ _) _) _ _⟩
set_option maxRecDepth 100000 in
set_option maxHeartbeats 1000000 in
theorem next_some (R : Nat) (bs : List UInt8) (at_ : Nat) (bad : Bool) (w : World) (hr : RR w R bs at_ bad) (hlt : at_ < bs.length) :
    Calls Try.prog 48 #[.pointer (some ⟨R, 0, none⟩)] w fun e w' => e = .returned (.int .u8 (bs[at_].toNat : Int)) ∧ RR w' R bs (at_ + 1) bad ∧ w.grownBy w' (some R) := by
  obtain ⟨a, cap, hr⟩ := hr
  obtain ⟨x0, x1, x2, f1, f2⟩ := hr.cells
  have hlen := hr.2.2.1
  obtain ⟨b, off, rfl, hc⟩ := hr.2.2.2.1.resolve_left (by intro e; subst e; simp at hlt)
  have hc0 := hc at_ hlt
  unfold byteV at hc0
  generalize bs[at_].toNat = x at *
  have hbR : b < R := hr.2.2.2.2.1 _ rfl
  have HR := Lib.hid hr
  have hd : decide (bs.length ≤ at_) = false := by simp; omega
  have hi0 : (0 : Int) ≤ (at_ : Int) := Int.natCast_nonneg _
  have hi1 : (at_ : Int) < (bs.length : Int) := by omega
  clear hr hc
  go_enter Try.func48, Try.ntmps48
  go_wp2_with fail
  go_quiet (fail)
  go_wp2
  have hr2 := (HR.out.drewN nq).setAt (at_ + 1) (by omega)
  rw [show ((at_ + 1 : Nat) : Int) = (at_ : Int) + 1 by omega] at hr2
  obtain ⟨y0, y1, y2, fy1, fy2⟩ := hr2.cells
  have hc1 : ((w.drewN nq).setCell ⟨R, 1, none⟩ (.int .i64 ((at_ : Int) + 1))).cell? ⟨b, off + at_, none⟩ = some (.int .u8 (x : Int)) :=
    (World.cell?_of_block (w := w) (a := ⟨b, off + at_, none⟩) (setCell_other (w.drewN nq) R 1 _ b (by omega))).trans hc0
  have hg2 : w.grownBy ((w.drewN nq).setCell ⟨R, 1, none⟩ (.int .i64 ((at_ : Int) + 1))) (some R) := grownBy_setR (grownBy_drewN (grownBy_refl _ _) _) _ _
  rw [show ((at_ + 1 : Nat) : Int) = (at_ : Int) + 1 by omega] at y1
  generalize (w.drewN nq).setCell ⟨R, 1, none⟩ (.int .i64 ((at_ : Int) + 1)) = W2 at *
  have HR2 := Lib.hid hr2
  have kw : IntKind.i64.wrap ((at_ : Int) + 1 - 1) = at_ := by rw [IntWalk.i64_in _ (by omega)]; omega
  have hd' : decide ((bs.length : Int) ≤ at_) = false := by simp; omega
  clear hr2 x0 x1 x2 f1 f2 hc0
  go_quiet (fail)
  go_wp2
  go_ret
  exact ⟨rfl, ⟨_, cap, HR2.out.drewN _⟩, grownBy_drewN hg2 _⟩
end Go.Proofs.Ytedkoifbjmemdaa
