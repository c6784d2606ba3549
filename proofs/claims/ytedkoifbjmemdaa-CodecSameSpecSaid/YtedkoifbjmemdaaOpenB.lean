/- opening the arguments -/
import Derived.Test.YtedkoifbjmemdaaRowK
import Derived.Test.YtedkoifbjmemdaaSane
namespace Go.Proofs.Ytedkoifbjmemdaa
open Go.ChangeShapes Go.WideShapes Go.ChangeAt Go.RowKit
theorem Try.own : ownKnob Try.prog.godebug = none := by kernel_rfl
theorem Try.laidOut : laidOutB Try.prog = true := by kernel_rfl
theorem Try.cells5 : Try.prog.cellsOf 5 = 1 := by kernel_rfl
theorem u8_list : ∀ zs : List Int, (∀ n ∈ zs, (Lit.int .u8 n).wf = true) → ∃ bs : List UInt8, zs = bs.map fun b => (b.toNat : Int)
  | [], _ => ⟨[], rfl⟩
  | z :: zs, h => by
    obtain ⟨bs, e⟩ := u8_list zs (fun n hn => h n (List.mem_cons_of_mem _ hn))
    have hz : 0 ≤ z ∧ z ≤ 255 := by simpa [Lit.wf, IntKind.min, IntKind.max, IntKind.signed, IntKind.bits] using h z (by simp)
    refine ⟨UInt8.ofNat z.toNat :: bs, ?_⟩
    rw [List.map_cons, ← e]
    congr 1
    rw [UInt8.toNat_ofNat']
    omega
theorem open_bytes {H : Type} {enc : TypeId × Value → H} {W : World} {base : Nat} {v : Value} {d : DataW H} {ps : List MemPlace} (hok : Value.okWide Try.prog W .any base 27 v) (h : DataW.Trod enc Try.prog W 0 (fun _ => true) true 27 v d ps) :
    ∃ a bs cap, v = .slice a bs.length cap ∧ bs.length ≤ cap ∧ Bytes W a bs ∧ ∀ ad, a = some ad → ad.block < W.heap.size := by
  obtain ⟨a0, len, cap, rfl⟩ := okWide_slice Try.underlying27 hok
  obtain ⟨fuel, hf⟩ := h
  rcases open_ints Try.underlying27 Try.underlying5 Try.cells5 hf with ⟨hcs, hx⟩ | ⟨a, len', cap', zs, hcs, _, hl, hm, hz, hx, hcell, hwz⟩
  · simp [Value.cells] at hcs
    obtain ⟨rfl, rfl, rfl⟩ := hcs
    exact ⟨none, [], 0, rfl, Nat.le_refl _, .inl rfl, fun ad h => by cases h⟩
  · simp [Value.cells] at hcs
    obtain ⟨rfl, rfl, rfl⟩ := hcs
    simp only [if_true] at hz
    have hhas : W.has Try.prog .any base a 5 cap := by
      simp only [Value.okWide, Try.underlying27, Cell.okWide, Cell.ok] at hok
      exact hok.2.2
    obtain ⟨hsp, hlt⟩ := has_lt hhas
    obtain ⟨b, off, spot⟩ := a
    subst hsp
    obtain ⟨bs, rfl⟩ := u8_list zs hwz
    simp only [List.length_map] at hz
    have hlen : (bs.take len).length = len := by rw [List.length_take]; omega
    refine ⟨some ⟨b, off, none⟩, bs.take len, cap, by rw [hlen], by rw [hlen]; exact hl, .inr ⟨b, off, rfl, fun i hi => ?_⟩, fun ad h => by cases h; exact hlt⟩
    rw [hlen] at hi
    have := hcell i (by rw [List.length_map]; omega)
    rw [add_plain] at this
    rw [this]
    have hi' : i < bs.length := by omega
    simp [byteV, hi']
end Go.Proofs.Ytedkoifbjmemdaa
