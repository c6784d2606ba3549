/- the arguments of the laws, opened -/
import Derived.Test.YtmlhpchabnajkaaNet21
import Derived.Test.YtmlhpchabnajkaaOpen
namespace Go.Proofs.Ytmlhpchabnajkaa
set_option linter.unusedSimpArgs false
set_option linter.unusedVariables false
open Go.ChangeShapes Go.WideShapes Go.ChangeAt Go.RowKit
theorem opens_pr : Opens Try.prog 55 RPr := opens_map (f := fun l : List Int => (l.getD 0 0, l.getD 1 0)) (opens_array (sz := 1) (opens_int Try.underlying3) Try.underlying55 (by kernel_rfl) (by decide) (by kernel_rfl)) (fun {F w x cs} h => by
  obtain ⟨h1, h2⟩ := h
  match x, h1 with
  | [a, b], _ =>
    obtain ⟨c1, ys, rfl, ⟨rfl, ha⟩, c2, zs, rfl, ⟨rfl, hb⟩, rfl⟩ := h2
    exact ⟨rfl, wf_i64 ha, wf_i64 hb⟩)
theorem opens_pk : Opens Try.prog 28 RPk := opens_map (f := fun x : Int × Int × List UInt8 × Unit => (⟨x.1, x.2.1, x.2.2.1⟩ : Pkt)) (opens_struct Try.underlying28 (by kernel_rfl)
    (opensL_cons (good_int .i64) (opens_int Try.underlying3) (by kernel_rfl) rfl (by simp) (opensL_cons (good_int .i64) (opens_int Try.underlying3) (by kernel_rfl) rfl (by simp)
      (opensL_cons (good_slice good_u8) (opens_slice good_u8 (opens_u8 Try.underlying5) Try.underlying26 (by kernel_rfl) (by decide) (Nat.le_of_ble_eq_true (by kernel_rfl))) (by kernel_rfl) rfl (by simp) opensL_nil)))) (fun {F w x cs} h => by
  obtain ⟨c1, c2, rfl, ⟨rfl, h1⟩, c3, c4, rfl, ⟨rfl, h2⟩, c5, c6, rfl, ⟨a, cap, rfl, h3, h4, h5⟩, rfl⟩ := h
  exact ⟨a, cap, rfl, wf_i64 h1, wf_i64 h2, h3, h4, h5⟩)
theorem opens_net : Opens Try.prog 25 RNet := opens_map (f := fun x : List Pkt × List (Int × Int) × Unit => (⟨x.1, x.2.1⟩ : NetM)) (opens_struct Try.underlying25 (by kernel_rfl)
    (opensL_cons (good_slice good_pk) (opens_slice good_pk opens_pk Try.underlying22 (by kernel_rfl) (by decide) (Nat.le_of_ble_eq_true (by kernel_rfl))) (by kernel_rfl) rfl (by simp)
      (opensL_cons (good_slice good_pr) (opens_slice good_pr opens_pr Try.underlying23 (by kernel_rfl) (by decide) (Nat.le_of_ble_eq_true (by kernel_rfl))) (by kernel_rfl) rfl (by simp) opensL_nil))) (fun {F w x cs} h => by
  obtain ⟨c1, c2, rfl, ⟨a, cap, rfl, h1, h2, h3⟩, c3, c4, rfl, ⟨a', cap', rfl, h4, h5, h6⟩, rfl⟩ := h
  exact ⟨a, cap, a', cap', rfl, h1, h2, h3, h4, h5, h6⟩)
theorem rnet_cells {w : World} {n : NetM} {cs : List Value} {F : Nat → Prop} (h : RNet F w n cs) : ∃ qa qc aa ac, cs = [.slice qa n.queue.length qc, .slice aa n.apart.length ac] := by obtain ⟨qa, qc, aa, ac, e, _⟩ := h; exact ⟨qa, qc, aa, ac, e⟩
theorem rpk_cells {w : World} {p : Pkt} {cs : List Value} {F : Nat → Prop} (h : RPk F w p cs) : ∃ da dc, cs = [.int .i64 p.src, .int .i64 p.dst, .slice da p.data.length dc] := by obtain ⟨da, dc, e, _⟩ := h; exact ⟨da, dc, e⟩
end Go.Proofs.Ytmlhpchabnajkaa
