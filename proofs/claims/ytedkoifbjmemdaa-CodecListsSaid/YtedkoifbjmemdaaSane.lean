/- sane: the law's own trial -/
import Derived.Test.YtedkoifbjmemdaaRDec
import Derived.Lib.AtoiErrMem
namespace Go.Proofs.Ytedkoifbjmemdaa
open Go.RowKit
attribute [local go_sem ↓] Go.wp_at_zero Go.wp_at_succ

/-- what Encode hands back, as bytes -/
def EncB (v : V) (w : World) (e : Ending) (w' : World) : Prop :=
  ∃ a cap, e = .returned (.tuple #[.slice a v.out.length cap, .int .i64 v.chk]) ∧ Bytes w' a v.out ∧ v.out.length ≤ cap ∧ (∀ ad, a = some ad → ad.block < w'.heap.size) ∧ Below w.heap.size w w'
theorem EncPost.bytes {v : V} {w : World} {e : Ending} {w' : World} (h : EncPost v w e w') : EncB v w e w' := by
  obtain ⟨v', rfl, ho, hb⟩ := h
  obtain ⟨a, cap, rfl, h1, h2, h3⟩ := own_bytes ho
  exact ⟨a, cap, rfl, h1, h2, h3, hb⟩
def va : V := .mk 1 (-3) [] []
def vb : V := .mk 3 0 [] [.mk 1 100 [] [], .mk 2 0 [97, 98] []]
theorem va_out : va.out = [1, 5] := by decide
theorem vb_out : vb.out = [3, 2, 1, 200, 1, 2, 2, 97, 98] := by decide
theorem va_chk : va.chk = 0 := by decide
theorem vb_chk : vb.chk = 0 := by decide
set_option maxRecDepth 20000 in
theorem vb_dec : dec [3, 2, 1, 200, 1, 2, 2, 97, 98] = some vb := by rfl
theorem d1 : dec [] = none := by rfl
theorem d2 : dec [1, 128, 0] = none := by rfl
theorem d3 : dec [1, 5, 0] = none := by rfl
theorem d4 : dec [2, 3, 97] = none := by rfl
theorem zc : V.zero.chk = 1 := by decide
theorem se : V.same (.mk 2 0 [] []) (.mk 3 0 [] []) = false := by decide
theorem va_small : va.depth ≤ 1000000 ∧ va.enc.length ≤ 1000000 := by decide
theorem vb_small : vb.depth ≤ 1000000 ∧ vb.enc.length ≤ 1000000 := by decide
theorem int_rep (W : World) (n : Int) (h : i64R n) : RepV W (.mk 1 n [] []) (.agg #[.int .i64 1, .int .i64 n, .string ⟨#[]⟩, .slice none 0 0]) := by
  simp only [RepV, List.length_nil]
  exact ⟨none, 0, rfl, by unfold i64R; omega, h, by omega, by omega, by omega, by simp only [RepL]⟩
theorem text0_rep (W : World) : RepV W (.mk 2 0 [] []) (.agg #[.int .i64 2, .int .i64 0, .string ⟨#[]⟩, .slice none 0 0]) := by
  simp only [RepV, List.length_nil]
  exact ⟨none, 0, rfl, by unfold i64R; omega, by unfold i64R; omega, by omega, by omega, by omega, by simp only [RepL]⟩
theorem list0_rep (W : World) : RepV W (.mk 3 0 [] []) (.agg #[.int .i64 3, .int .i64 0, .string ⟨#[]⟩, .slice none 0 0]) := by
  simp only [RepV, List.length_nil]
  exact ⟨none, 0, rfl, by unfold i64R; omega, by unfold i64R; omega, by omega, by omega, by omega, by simp only [RepL]⟩
theorem vb_rep {W : World} {g : Nat} (h : W.heap[g]? = some (.cells #[.int .i64 1, .int .i64 100, .string ⟨#[]⟩, .slice none 0 0, .int .i64 2, .int .i64 0, .string ⟨#[97, 98]⟩, .slice none 0 0] 24)) :
    RepV W vb (.agg #[.int .i64 3, .int .i64 0, .string ⟨#[]⟩, .slice (some ⟨g, 0, none⟩) 2 2]) := by
  have hc : ∀ o u, (#[Value.int .i64 1, .int .i64 100, .string ⟨#[]⟩, .slice none 0 0, .int .i64 2, .int .i64 0, .string ⟨#[97, 98]⟩, .slice none 0 0] : Array Value)[o]? = some u → W.cell? ⟨g, o, none⟩ = some u := fun o u hu => by
    simp [World.cell?, h, hu]
  unfold vb
  simp only [RepV, List.length_cons, List.length_nil, RepL, Nat.zero_add]
  exact ⟨some ⟨g, 0, none⟩, 2, rfl, by unfold i64R; omega, by unfold i64R; omega, by omega, by omega, by omega, g, 0, _, _, _, _, rfl, hc 0 _ rfl, hc 1 _ rfl, hc 2 _ rfl, hc 3 _ rfl,
    ⟨none, 0, rfl, by unfold i64R; omega, by unfold i64R; omega, by omega, by omega, by omega, trivial⟩,
    g, 4, _, _, _, _, rfl, hc 4 _ rfl, hc 5 _ rfl, hc 6 _ rfl, hc 7 _ rfl, ⟨none, 0, rfl, by unfold i64R; omega, by unfold i64R; omega, by omega, by omega, by omega, trivial⟩, trivial⟩
theorem bad_at {W : World} {g : Nat} (h : W.heap[g]? = some (.cells #[.string ⟨#[]⟩, .string ⟨#[1, 128, 0]⟩, .string ⟨#[1, 5, 0]⟩, .string ⟨#[2, 3, 97]⟩] 9)) (k : Nat) (hk : k < 4) :
    ∃ s : List UInt8, W.cell? ⟨g, k, none⟩ = some (.string ⟨s.toArray⟩) ∧ dec s = none ∧ s.length ≤ 3 := by
  have hc : ∀ o u, (#[Value.string ⟨#[]⟩, .string ⟨#[1, 128, 0]⟩, .string ⟨#[1, 5, 0]⟩, .string ⟨#[2, 3, 97]⟩] : Array Value)[o]? = some u → W.cell? ⟨g, o, none⟩ = some u := fun o u hu => by
    simp [World.cell?, h, hu]
  match k, hk with
  | 0, _ => exact ⟨[], hc 0 _ rfl, d1, by decide⟩
  | 1, _ => exact ⟨[1, 128, 0], hc 1 _ rfl, d2, by decide⟩
  | 2, _ => exact ⟨[1, 5, 0], hc 2 _ rfl, d3, by decide⟩
  | 3, _ => exact ⟨[2, 3, 97], hc 3 _ rfl, d4, by decide⟩
/-- []byte(s) -/
theorem conv_in (s : List UInt8) (w : World) : ∃ cap W, (convert 9 27 (.string ⟨s.toArray⟩)).run Try.prog w = .ok (.slice (some ⟨w.heap.size, 0, none⟩) s.length cap) W ∧ s.length ≤ cap ∧ Bytes W (some ⟨w.heap.size, 0, none⟩) s ∧ w.heap.size < W.heap.size ∧ Below w.heap.size w W := by
  refine ⟨_, _, Lib.run_convert_string_bytes (P := Try.prog) w 9 27 5 ⟨s.toArray⟩ (u := .string) rfl rfl rfl, ?_, .inr ⟨w.heap.size, 0, rfl, fun i h => ?_⟩, by rw [Lib.bytesWorld_size]; omega, Lib.bytesWorld_below _ _ _⟩
  · exact grownCap_ge _ _ _ _
  · rw [Nat.zero_add]
    refine (Lib.bytesWorld_cell w 5 ⟨s.toArray⟩ i h).trans ?_
    simp [byteV, h]

set_option maxRecDepth 100000 in
set_option maxHeartbeats 1600000 in
theorem sane_any (w : World) : Calls Try.prog 10 #[] w (Gives (.bool true) w) := by
  go_enter Try.func10, Try.ntmps10
  go_wp2_with fail
  refine (int_any _ _).mono ?_
  rintro e w1 ⟨rfl, hb1⟩
  go_wp2_with fail
  refine (encode_any va _ _ va_small.1 va_small.2 (int_rep _ _ (by unfold i64R; omega))).mono ?_
  intro e w2 h2
  obtain ⟨a2, cap2, rfl, hby2, hc2, hl2, hb2⟩ := h2.bytes
  rw [va_out] at hby2 hc2
  rw [va_out, va_chk]
  have hB2 := hb1.trans (hb2.mono hb1.size)
  clear h2 hb2 hb1
  go_wp2_with fail
  refine (int_any _ _).mono ?_
  rintro e w3 ⟨rfl, hb3⟩
  go_wp2_with fail
  refine (text_any _ _).mono ?_
  rintro e w4 ⟨rfl, hb4⟩
  go_wp2_with fail
  have hv4 := vb_rep (heap_alloc_new w4 (.cells #[.int .i64 1, .int .i64 100, .string ⟨#[]⟩, .slice none 0 0, .int .i64 2, .int .i64 0, .string ⟨#[97, 98]⟩, .slice none 0 0] 24))
  have hB4 := (hb3.trans (hb4.mono hb3.size)).alloc (hb3.trans (hb4.mono hb3.size)).size (.cells #[.int .i64 1, .int .i64 100, .string ⟨#[]⟩, .slice none 0 0, .int .i64 2, .int .i64 0, .string ⟨#[97, 98]⟩, .slice none 0 0] 24)
  refine (list_any _ _ _ _).mono ?_
  rintro e w5 ⟨rfl, hb5⟩
  have hv5 := RepV.below (((Below.refl _ _).alloc (Nat.le_refl _) (.cells #[.int .i64 3, .int .i64 0, .string ⟨#[]⟩, .slice (some ⟨w4.heap.size, 0, none⟩) 2 2] 24))) (RepV.below hb5 hv4)
  have hB5 := hB4.trans (hb5.mono hB4.size)
  clear hv4 hB4 hb5 hb3 hb4
  generalize (some ⟨w4.heap.size, 0, none⟩ : Option Addr) = a4 at *
  go_wp2_with fail
  have hB5' := hB5.alloc hB5.size (.cells #[.int .i64 3, .int .i64 0, .string ⟨#[]⟩, .slice a4 2 2] 24)
  have hX5 := Box4.new w5 (.int .i64 3) (.int .i64 0) (.string ⟨#[]⟩) (.slice a4 2 2)
  have hX5s : w5.heap.size < (w5.alloc (.cells #[.int .i64 3, .int .i64 0, .string ⟨#[]⟩, .slice a4 2 2] 24)).heap.size := by simp
  refine (encode_any vb _ _ vb_small.1 vb_small.2 hv5).mono ?_
  intro e w6 h6
  generalize w5.alloc (.cells #[.int .i64 3, .int .i64 0, .string ⟨#[]⟩, .slice a4 2 2] 24) = W5 at *
  obtain ⟨a6, cap6, rfl, hby6, hc6, hl6, hb6⟩ := h6.bytes
  clear h6
  rw [vb_out] at hby6 hc6
  rw [vb_out, vb_chk]
  have hv6 := RepV.below hb6 hv5
  have hX6 : Box4 w6 _ _ _ _ _ := (hb6.block _ hX5s).trans hX5
  have hX6s := Nat.lt_of_lt_of_le hX5s hb6.size
  have hB6 := hB5'.trans (hb6.mono hB5'.size)
  clear hb6 hv5 hX5 hX5s hB5 hB5'
  generalize w5.heap.size = X at *
  go_wp2_with fail
  refine (decode_any _ _ _ _ hc6 (by decide) hby6 hl6).mono ?_
  rintro e w7 ⟨c7, he, hv7', hb7⟩
  rw [vb_dec] at he hv7'
  subst he
  obtain ⟨k7, n7, s7, b7, len7, cp7, rfl⟩ := hv7'.form
  have hv7 : RepV w7 vb _ := hv7'
  have hv6' := RepV.below hb7 hv6
  have hX7 : Box4 w7 _ _ _ _ _ := (hb7.block _ hX6s).trans hX6
  obtain ⟨x0, x1, x2, x3⟩ := hX7.cells
  have hX7s := Nat.lt_of_lt_of_le hX6s hb7.size
  have hB7 := hB6.trans (hb7.mono hB6.size)
  have hby7 := hby6.below hb7
  clear hby6 hb7 hv7' hX6 hX6s hv6 hB6
  have hb8 := (Below.refl w7.heap.size w7).alloc (Nat.le_refl _) (.cells #[.int .i64 k7, .int .i64 n7, .string s7, .slice b7 len7 cp7] 24)
  go_wp2_with fail
  refine (size_any vb _ _ vb_small.1 vb_small.2 (RepV.below hb8 hv6')).mono ?_
  rintro e w8 ⟨rfl, hb8'⟩
  rw [vb_out, vb_chk]
  have hX8 : Box4 w8 w7.heap.size (.int .i64 k7) (.int .i64 n7) (.string s7) (.slice b7 len7 cp7) := (hb8'.block _ (by simp)).trans (Box4.new w7 _ _ _ _)
  have hX8s : w7.heap.size < w8.heap.size := Nat.lt_of_lt_of_le (by simp) hb8'.size
  have hb9 := hb8.trans (hb8'.mono hb8.size)
  have x80 := below_cell hb9 x0
  have x81 := below_cell hb9 x1
  have x82 := below_cell hb9 x2
  have x83 := below_cell hb9 x3
  obtain ⟨y80, y81, y82, y83⟩ := hX8.cells
  have hB8 := hB7.trans (hb9.mono hB7.size)
  have hcv6 := (hby7.below hb9).conv cap6
  have hcv2 := (hby2.below hB8).conv cap2
  have hs8 := same_any _ vb vb w8 _ _ (Nat.le_refl _) (RepV.below hb9 hv6') (RepV.below hb9 hv7)
  rw [V.same_refl] at hs8
  have HS8 := Lib.hid hs8
  have HBW := Lib.hid (hB2.trans (hB8.mono hB2.size))
  clear hs8 hby7 hB8 hb9 hb8 hb8' hB7 hX7 hX7s x0 x1 x2 x3 hv7 hv6' hX8 hby2 hB2 hc2 hl2 hc6 hl6
  simp only [List.length_cons, List.length_nil, Nat.zero_add, Nat.reduceAdd] at hcv6 hcv2
  go_wp2_with fail
  refine HS8.out.mono ?_
  rintro e w9 ⟨rfl, hb9⟩
  clear HS8 hcv2 hcv6 x80 x81 x82 x83 y80 y81 y82 y83
  go_wp2_with fail
  refine (text_any _ _).mono ?_
  rintro e w10 ⟨rfl, hb10⟩
  go_wp2_with fail
  refine (list_any _ _ _ _).mono ?_
  rintro e w11 ⟨rfl, hb11⟩
  go_wp2_with fail
  have hs11 := same_any _ _ _ w11 _ _ (Nat.le_refl _) (text0_rep w11) (list0_rep w11)
  rw [se] at hs11
  refine hs11.mono ?_
  rintro e w12 ⟨rfl, hb12⟩
  have hB9 := HBW.out.trans (hb9.mono HBW.out.size)
  have hB10 := hB9.trans (hb10.mono hB9.size)
  have hB11 := hB10.trans (hb11.mono hB10.size)
  have HB12 := Lib.hid (hB11.trans (hb12.mono hB11.size))
  clear hB9 hB10 hB11 hb12 hb11 hb10 hb9 HBW hs11
  have hbw : Below w.heap.size w (w12.alloc (.cells #[.string ⟨#[]⟩, .string ⟨#[1, 128, 0]⟩, .string ⟨#[1, 5, 0]⟩, .string ⟨#[2, 3, 97]⟩] 9)) := HB12.out.alloc HB12.out.size _
  have hnew := heap_alloc_new w12 (.cells #[.string ⟨#[]⟩, .string ⟨#[1, 128, 0]⟩, .string ⟨#[1, 5, 0]⟩, .string ⟨#[2, 3, 97]⟩] 9)
  have HN := Lib.hid hnew
  have HBW := Lib.hid hbw
  clear hnew hbw
  go_wp2
  generalize w12.alloc (.cells #[.string ⟨#[]⟩, .string ⟨#[1, 128, 0]⟩, .string ⟨#[1, 5, 0]⟩, .string ⟨#[2, 3, 97]⟩] 9) = W12 at *
  generalize w12.heap.size = g at *
  go_loopw [79] (fun i wr => ∃ k : Nat, k ≤ 4 ∧ i = .int .i64 k ∧ Hid (wr.heap[g]? = some (.cells #[.string ⟨#[]⟩, .string ⟨#[1, 128, 0]⟩, .string ⟨#[1, 5, 0]⟩, .string ⟨#[2, 3, 97]⟩] 9)) ∧ Hid (Below w.heap.size w wr)) (fun i _ => 4 - (intOf i).toNat)
  case atStart => exact ⟨0, Nat.zero_le _, rfl, HN, HBW⟩
  case round =>
    obtain ⟨k, hk, rfl, hn, hb⟩ := hrel
    by_cases hlt : k < 4
    · obtain ⟨s, hs, hd, hl⟩ := bad_at hn.out k hlt
      obtain ⟨cap, W, hcv, hcap, hby, hlw, hbW⟩ := conv_in s wr
      have HD := Lib.hid hd
      have HC : Hid (Calls Try.prog 18 #[.slice (some ⟨wr.heap.size, 0, none⟩) s.length cap] W (DecPost s W)) := decode_any s _ cap W hcap (by omega) hby (fun ad h => by cases h; exact hlw)
      have HBW2 := Lib.hid hbW
      clear hd hby hbW
      go_wp2_with fail
      refine HC.out.mono ?_
      rintro e w14 ⟨c, he, hv14, hb14⟩
      rw [HD.out] at he
      subst he
      obtain ⟨k14, n14, s14, b14, len14, cp14, rfl⟩ := hv14.form
      have hg : g < wr.heap.size := by
        rcases Nat.lt_or_ge g wr.heap.size with h | h
        · exact h
        · have := hn.out
          rw [Array.getElem?_eq_none h] at this
          cases this
      have hbA := HBW2.out.trans (hb14.mono HBW2.out.size)
      have hbB := hbA.alloc hbA.size (.cells #[.int .i64 k14, .int .i64 n14, .string s14, .slice b14 len14 cp14] 24)
      have HBB := Lib.hid hbB
      clear hv14 hbA hbB hb14 hcv HC
      go_wp2
      go_roundw
      case rel =>
        exact ⟨k + 1, by omega, by go_num, (HBB.out.block _ hg).trans hn.out, hb.out.trans (HBB.out.mono hb.out.size)⟩
      case measure => simp [intOf]; omega
    · have hk4 : k = 4 := by omega
      subst hk4
      go_wp2_with fail
      refine (check_any V.zero _ _ _ _ _ _ _ (by decide) (repV_zero _)).mono ?_
      rintro e w15 ⟨rfl, hb15⟩
      rw [zc]
      have HE := Lib.hid (hb.out.trans (hb15.mono hb.out.size))
      go_wp2
      go_ret
      exact ⟨rfl, HE.out⟩
end Go.Proofs.Ytedkoifbjmemdaa
