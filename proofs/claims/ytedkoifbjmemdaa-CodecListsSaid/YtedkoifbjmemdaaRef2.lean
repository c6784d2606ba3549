/- frankingref01: Depth -/
import Derived.Test.YtedkoifbjmemdaaFormed3
namespace Go.Proofs.Ytedkoifbjmemdaa
set_option linter.unusedSimpArgs false
set_option linter.unusedVariables false
open Go.RowKit
def GivesI (n : Int) (w : World) (e : Ending) (w' : World) : Prop := e = .returned (.int .i64 n) ∧ Below w.heap.size w w'
theorem givesI_of {a b : Int} {w w' : World} (h : a = b) (hb : Below w.heap.size w w') : GivesI a w (.returned (.int .i64 b)) w' := by rw [h]; exact ⟨rfl, hb⟩
set_option maxHeartbeats 1000000 in
theorem rdepth_no (k n : Int) (s : List UInt8) (l : List V) (a : Option Addr) (cap : Nat) (w : World) (hk : ¬ k = 3) :
    Calls Try.prog 30 #[.agg #[.int .i64 k, .int .i64 n, .string ⟨s.toArray⟩, .slice a l.length cap]] w (GivesI (V.mk k n s l).depth w) := by
  have h0 : ((V.mk k n s l).depth : Int) = 0 := by simp [V.depth, hk]
  rw [h0]
  have g : (k != 3) = true := by simpa using hk
  clear h0 hk
  go_enter Try.func30, Try.ntmps30
  go_wp2
  go_ret
  exact givesI_of rfl ((Below.refl _ _).alloc (Nat.le_refl _) _)

set_option maxHeartbeats 1000000 in
theorem rdepth_3 (n : Int) (s : List UInt8) (l : List V) (a : Option Addr) (cap : Nat) (w : World) (hr : RepL w l a) (hl : l.length ≤ cap) (hc : l.length ≤ 140737488351232) (hd : V.depths l ≤ 1000000)
    (ih : ∀ v, v ∈ l → ∀ w c, RepV w v c → Calls Try.prog 30 #[c] w (GivesI v.depth w)) :
    Calls Try.prog 30 #[.agg #[.int .i64 3, .int .i64 n, .string ⟨s.toArray⟩, .slice a l.length cap]] w (GivesI (V.mk 3 n s l).depth w) := by
  have HR := Lib.hid hr
  have IH := Lib.hid ih
  clear hr ih
  have h0 : ((V.mk 3 n s l).depth : Int) = V.depths l + 1 := by simp [V.depth]
  rw [h0]
  clear h0
  go_enter Try.func30, Try.ntmps30
  go_wp2
  go_loopw [3, 4] (fun d i wr => ∃ k : Nat, k ≤ l.length ∧ i = .int .i64 k ∧ d = .int .i64 (V.depths (l.take k) : Nat) ∧ Below (w.heap.size + 1) (w.alloc (.cells #[.int .i64 3, .int .i64 n, .string ⟨s.toArray⟩, .slice a l.length cap] 24)) wr) (fun _ i _ => l.length - (intOf i).toNat)
  case atStart => exact ⟨0, Nat.zero_le _, rfl, by simp [V.depths], Below.refl _ _⟩
  case round =>
    obtain ⟨k, hk, rfl, rfl, hb⟩ := hrel
    have q3 : wr.cell? ⟨w.heap.size, 3, none⟩ = some (.slice a l.length cap) := (hb.cell (by simp)).trans (by go_simp)
    have hb0 : Below w.heap.size w wr := ((Below.refl _ _).alloc (Nat.le_refl _) _).trans (hb.mono (by omega))
    by_cases hlt : k < l.length
    · obtain ⟨b, off, k0, n0, s0, a', len', cap', rfl, g0, g1, g2, g3, hv⟩ := (RepL.below hb0 HR.out).at k hlt
      have HV := Lib.hid hv
      clear hv
      go_wp2_with fail
      refine (IH.out l[k] (List.getElem_mem _) _ _ HV.out).mono ?_
      rintro e w1 ⟨rfl, hb1⟩
      have hbb := hb.trans (hb1.mono (by have := hb.size; simpa using this))
      go_wp2
      go_roundw
      case rel =>
        refine ⟨k + 1, by omega, by go_num, ?_, hbb⟩
        rw [V.depths_take_succ l k hlt]
        congr 1
        split <;> omega
      case measure => simp [intOf]; omega
    · have hkl : k = l.length := by omega
      have e3 := V.depths_take_le l k
      have e4 : l.take k = l := by rw [hkl, List.take_length]
      have E4 := Lib.hid e4
      clear e4 hkl
      go_wp2
      go_ret
      exact givesI_of (by rw [E4.out]) hb0

theorem rdepth_any (m : Nat) : ∀ (v : V) (w : World) (c : Value), SizeOf.sizeOf v ≤ m → v.depth ≤ 1000000 → RepV w v c → Calls Try.prog 30 #[c] w (GivesI v.depth w) := by
  induction m with
  | zero => intro v w c hm; cases v; simp at hm
  | succ m ih =>
    intro v w c hm hd hr
    obtain ⟨k, n, s, l⟩ := v
    simp only [RepV] at hr
    obtain ⟨a, cap, rfl, hk, hn, hs, hl, hcap, hrl⟩ := hr
    by_cases h : k = 3
    · subst h
      simp only [V.depth, if_true] at hd
      refine rdepth_3 n s l a cap w hrl hl hcap (by omega) fun x hx w' c' hr' => ih x w' c' ?_ ?_ hr'
      · have := List.sizeOf_lt_of_mem hx
        simp at hm; omega
      · have := V.depth_mem hx; omega
    · exact rdepth_no k n s l a cap w h
end Go.Proofs.Ytedkoifbjmemdaa
