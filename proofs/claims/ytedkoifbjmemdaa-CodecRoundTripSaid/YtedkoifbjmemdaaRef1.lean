/- frankingref01: Formed, Depth -/
import Derived.Test.YtedkoifbjmemdaaFormed3
namespace Go.Proofs.Ytedkoifbjmemdaa
set_option linter.unusedSimpArgs false
set_option linter.unusedVariables false
open Go.RowKit
theorem ret_bool {a b : Bool} (h : a = b) : Ending.returned (.bool a) = .returned (.bool b) := by rw [h]
theorem ret_int {k : IntKind} {a b : Int} (h : a = b) : Ending.returned (.int k a) = .returned (.int k b) := by rw [h]
/-- what a call that returns one value and makes memory alone says -/
def Gives (v : Value) (w : World) (e : Ending) (w' : World) : Prop := e = .returned v ∧ Below w.heap.size w w'
theorem V.ok_other {k n : Int} {s : List UInt8} {l : List V} (h1 : ¬ k = 1) (h2 : ¬ k = 2) (h3 : ¬ k = 3) : (V.mk k n s l).ok = false := by
  simp only [V.ok]; rw [if_neg h1, if_neg h2, if_neg h3]
theorem V.ok_3 {n : Int} {s : List UInt8} {l : List V} : (V.mk 3 n s l).ok = ((n == 0) && s.isEmpty && V.oks l) := by
  simp [V.ok]; rfl

set_option maxHeartbeats 1000000 in
theorem rformed_12 (k n : Int) (s : List UInt8) (l : List V) (a : Option Addr) (cap : Nat) (w : World) (hk : ¬ k = 3) :
    Calls Try.prog 29 #[.agg #[.int .i64 k, .int .i64 n, .string ⟨s.toArray⟩, .slice a l.length cap]] w (Gives (.bool (V.mk k n s l).ok) w) := by
  by_cases h1 : k = 1
  · subst h1
    have h0 : (V.mk 1 n s l).ok = (s.isEmpty && ((l.length : Int) == 0)) := by cases l <;> simp [V.ok]; intro _; omega
    rw [h0]; clear h0 hk
    unfold Gives
    go_enter Try.func29, Try.ntmps29
    go_wp2
    all_goals
      go_ret
      exact ⟨ret_bool (by simp_all), (Below.refl _ _).alloc (Nat.le_refl _) _⟩
  · by_cases h2 : k = 2
    · subst h2
      have h0 : (V.mk 2 n s l).ok = ((n == 0) && ((l.length : Int) == 0)) := by cases l <;> simp [V.ok] <;> (try rfl); intro _; omega
      rw [h0]; clear h0 hk h1
      unfold Gives
      go_enter Try.func29, Try.ntmps29
      go_wp2
      all_goals
        go_ret
        exact ⟨ret_bool (by simp_all), (Below.refl _ _).alloc (Nat.le_refl _) _⟩
    · rw [V.ok_other h1 h2 hk]
      have g1 : (k == 1) = false := by simpa using h1
      have g2 : (k == 2) = false := by simpa using h2
      have g3 : (k == 3) = false := by simpa using hk
      clear h1 h2 hk
      unfold Gives
      go_enter Try.func29, Try.ntmps29
      go_wp2
      all_goals
        go_ret
        exact ⟨ret_bool (by simp_all), (Below.refl _ _).alloc (Nat.le_refl _) _⟩

set_option maxHeartbeats 1000000 in
theorem rformed_3 (n : Int) (s : List UInt8) (l : List V) (a : Option Addr) (cap : Nat) (w : World) (hr : RepL w l a) (hl : l.length ≤ cap) (hc : l.length ≤ 140737488351232)
    (ih : ∀ v, v ∈ l → ∀ w c, RepV w v c → Calls Try.prog 29 #[c] w (Gives (.bool v.ok) w)) :
    Calls Try.prog 29 #[.agg #[.int .i64 3, .int .i64 n, .string ⟨s.toArray⟩, .slice a l.length cap]] w (Gives (.bool (V.mk 3 n s l).ok) w) := by
  have HR := Lib.hid hr
  have IH := Lib.hid ih
  clear hr ih
  rw [V.ok_3]
  obtain ⟨z, hz⟩ : ∃ z, ((n == 0) && s.isEmpty && V.oks l) = z := ⟨_, rfl⟩
  rw [hz]
  have HZ := Lib.hid hz
  clear hz
  unfold Gives
  go_enter Try.func29, Try.ntmps29
  go_wp2
  go_loopw [3] (fun i wr => ∃ k : Nat, k ≤ l.length ∧ i = .int .i64 k ∧ Hid (V.oks (l.take k) = true) ∧ Below (w.heap.size + 1) (w.alloc (.cells #[.int .i64 3, .int .i64 n, .string ⟨s.toArray⟩, .slice a l.length cap] 24)) wr) (fun i _ => l.length - (intOf i).toNat)
  case atStart => exact ⟨0, Nat.zero_le _, rfl, by simp [V.oks, Hid], Below.refl _ _⟩
  case round =>
    obtain ⟨k, hk, rfl, hoks, hb⟩ := hrel
    have q1 : wr.cell? ⟨w.heap.size, 1, none⟩ = some (.int .i64 n) := (hb.cell (by simp)).trans (by go_simp)
    have q2 : wr.cell? ⟨w.heap.size, 2, none⟩ = some (.string ⟨s.toArray⟩) := (hb.cell (by simp)).trans (by go_simp)
    have q3 : wr.cell? ⟨w.heap.size, 3, none⟩ = some (.slice a l.length cap) := (hb.cell (by simp)).trans (by go_simp)
    have hb0 : Below w.heap.size w wr := ((Below.refl _ _).alloc (Nat.le_refl _) _).trans (hb.mono (by omega))
    by_cases hlt : k < l.length
    · obtain ⟨b, off, k0, n0, s0, a', len', cap', rfl, g0, g1, g2, g3, hv⟩ := (RepL.below hb0 HR.out).at k hlt
      have HV := Lib.hid hv
      clear hv
      go_wp2_with fail
      refine (IH.out l[k] (List.getElem_mem _) _ _ HV.out).mono ?_
      rintro e w1 ⟨rfl, hb1⟩
      have hbb := hb.trans (hb1.mono (by have := hb.size; simpa using this))
      have hb0' := hb0.trans (hb1.mono hb0.size)
      by_cases hok : l[k].ok = true
      · go_wp2
        go_roundw
        case rel =>
          exact ⟨k + 1, by omega, by go_num, by unfold Hid; rw [V.oks_take_succ l k hlt, hoks.out, hok]; rfl, hbb⟩
        case measure => simp [intOf]; omega
      · have hok' : l[k].ok = false := by simpa using hok
        clear hok
        go_wp2
        go_ret
        exact ⟨ret_bool (by rw [← HZ.out, V.oks_false l k hlt hok']; simp), hb0'⟩
    · have hkl : k = l.length := by omega
      have hd' := hoks.out
      rw [hkl, List.take_length] at hd'
      have HD := Lib.hid hd'
      clear hd' hkl
      go_wp2
      all_goals
        go_ret
        exact ⟨ret_bool (by rw [← HZ.out, HD.out]; simp_all), hb0⟩

theorem rformed_any (m : Nat) : ∀ (v : V) (w : World) (c : Value), SizeOf.sizeOf v ≤ m → RepV w v c → Calls Try.prog 29 #[c] w (Gives (.bool v.ok) w) := by
  induction m with
  | zero => intro v w c hm; cases v; simp at hm
  | succ m ih =>
    intro v w c hm hr
    obtain ⟨k, n, s, l⟩ := v
    simp only [RepV] at hr
    obtain ⟨a, cap, rfl, hk, hn, hs, hl, hcap, hrl⟩ := hr
    by_cases h : k = 3
    · subst h
      refine rformed_3 n s l a cap w hrl hl hcap fun x hx w' c' hr' => ih x w' c' ?_ hr'
      have := List.sizeOf_lt_of_mem hx
      simp at hm; omega
    · exact rformed_12 k n s l a cap w h
end Go.Proofs.Ytedkoifbjmemdaa
