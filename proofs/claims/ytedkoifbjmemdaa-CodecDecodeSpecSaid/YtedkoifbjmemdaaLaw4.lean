/- the law CodecDecodeSpec -/
import Derived.Test.YtedkoifbjmemdaaSane
namespace Go.Proofs.Ytedkoifbjmemdaa
open Go.RowKit
attribute [local go_sem ↓] Go.wp_at_zero Go.wp_at_succ

set_option maxRecDepth 100000 in
set_option maxHeartbeats 1600000 in
theorem law4_any (bs : List UInt8) (a : Option Addr) (cap : Nat) (w : World) (hl : bs.length ≤ cap) (hby : Bytes w a bs) (hlt : ∀ ad, a = some ad → ad.block < w.heap.size) :
    Calls Try.prog 4 #[.slice a bs.length cap] w (Gives (.bool true) w) := by
  have HBY := Lib.hid hby
  have HLT := Lib.hid hlt
  clear hby hlt
  go_enter Try.func4, Try.ntmps4
  go_wp2_with fail
  refine (sane_any _).mono ?_
  rintro e w1 ⟨rfl, hb1⟩
  by_cases h2 : bs.length ≤ 2000
  · go_wp2_with fail
    refine (decode_any bs a cap w1 hl (by omega) (HBY.out.below hb1) (fun ad h => Nat.lt_of_lt_of_le (HLT.out ad h) hb1.size)).mono ?_
    rintro e w2 ⟨c2, rfl, hv2, hb2⟩
    obtain ⟨k2, n2, s2, b2, len2, cp2, rfl⟩ := hv2.form
    have hb3 := hb2.alloc hb2.size (.cells #[.int .i64 k2, .int .i64 n2, .string s2, .slice b2 len2 cp2] 24)
    have hv3 := RepV.below ((Below.refl w2.heap.size w2).alloc (Nat.le_refl _) (.cells #[.int .i64 k2, .int .i64 n2, .string s2, .slice b2 len2 cp2] 24)) hv2
    have hB3 := hb1.trans (hb3.mono hb1.size)
    have hX3 := Box4.new w2 (.int .i64 k2) (.int .i64 n2) (.string s2) (.slice b2 len2 cp2)
    have hX3s : w2.heap.size < (w2.alloc (.cells #[.int .i64 k2, .int .i64 n2, .string s2, .slice b2 len2 cp2] 24)).heap.size := by simp
    clear hv2 hb2 hb3
    obtain ⟨i, hi⟩ : ∃ i : Int, (if (dec bs).isSome = true then (0 : Int) else 10) = i := ⟨_, rfl⟩
    rw [hi]
    go_wp2_with fail
    generalize w2.alloc (.cells #[.int .i64 k2, .int .i64 n2, .string s2, .slice b2 len2 cp2] 24) = W3 at *
    refine (rdecode_any bs a cap W3 hl (by omega) (HBY.out.below hB3) (fun ad h => Nat.lt_of_lt_of_le (HLT.out ad h) hB3.size)).mono ?_
    rintro e w4 ⟨c4, rfl, hv4, hb4⟩
    rw [hi]
    obtain ⟨k4, n4, s4, b4, len4, cp4, rfl⟩ := hv4.form
    have hX4 : Box4 w4 w2.heap.size _ _ _ _ := (hb4.block _ hX3s).trans hX3
    obtain ⟨x0, x1, x2, x3⟩ := hX4.cells
    have hX4s := Nat.lt_of_lt_of_le hX3s hb4.size
    have hb5 := (Below.refl w4.heap.size w4).alloc (Nat.le_refl _) (.cells #[.int .i64 k4, .int .i64 n4, .string s4, .slice b4 len4 cp4] 24)
    have hs := rsame_any _ _ _ _ _ _ (Nat.le_refl _) (RepV.below hb5 (RepV.below hb4 hv3)) (RepV.below hb5 hv4)
    rw [V.same_refl] at hs
    have HS := Lib.hid hs
    have hB4 := hB3.trans (hb4.mono hB3.size)
    have HB5 := Lib.hid (hB4.trans (hb5.mono hB4.size))
    clear hs hv3 hv4 hb5 hB4 hB3 hb4 hX4 hX3 hX3s hb1
    go_wp2_with fail
    refine HS.out.mono ?_
    rintro e w6 ⟨rfl, hb6⟩
    have HB6 := Lib.hid (HB5.out.trans (hb6.mono HB5.out.size))
    clear hb6
    go_wp2
    go_ret
    exact ⟨by simp, HB6.out⟩
  · go_wp2
    go_ret
    exact ⟨rfl, hb1⟩
end Go.Proofs.Ytedkoifbjmemdaa
