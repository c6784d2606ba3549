/- codec.formed -/
import Derived.Test.YtedkoifbjmemdaaRep
namespace Go.Proofs.Ytedkoifbjmemdaa
open Go.RowKit
def V.fd (v : V) : Nat := if v.ok then v.depth else 0
def FormedPost (v : V) (w : World) (e : Ending) (w' : World) : Prop := e = .returned (.tuple #[.int .i64 (v.fd : Int), .bool v.ok]) ∧ Below w.heap.size w w'
theorem formedPost_of {v : V} {w w' : World} {d : Int} {b : Bool} (hb : v.ok = b) (hd : (v.fd : Int) = d) (h : Below w.heap.size w w') : FormedPost v w (.returned (.tuple #[.int .i64 d, .bool b])) w' := by
  unfold FormedPost; rw [hb, hd]; exact ⟨rfl, h⟩

set_option maxHeartbeats 1000000 in
theorem formed_no (k n : Int) (s : List UInt8) (l : List V) (a : Option Addr) (cap : Nat) (w : World) (hk : k < 1 ∨ 3 < k) :
    Calls Try.prog 28 #[.agg #[.int .i64 k, .int .i64 n, .string ⟨s.toArray⟩, .slice a l.length cap]] w (FormedPost (.mk k n s l) w) := by
  have h0 : (V.mk k n s l).ok = false := by simp only [V.ok]; rw [if_neg (by omega), if_neg (by omega), if_neg (by omega)]
  have h1 : ((V.mk k n s l).fd : Int) = 0 := by unfold V.fd; rw [h0]; rfl
  generalize V.mk k n s l = v at *
  have H0 := Lib.hid h0
  have H1 := Lib.hid h1
  clear h0 h1
  rcases hk with hk | hk
  all_goals
    go_enter Try.func28, Try.ntmps28
    go_wp2
    all_goals
      go_ret2
      exact formedPost_of H0.out H1.out (((Below.refl _ _).alloc (Nat.le_refl _) _).alloc (by simp) _)

set_option maxHeartbeats 1000000 in
theorem formed_1 (n : Int) (s : List UInt8) (l : List V) (a : Option Addr) (cap : Nat) (w : World) :
    Calls Try.prog 28 #[.agg #[.int .i64 1, .int .i64 n, .string ⟨s.toArray⟩, .slice a l.length cap]] w (FormedPost (.mk 1 n s l) w) := by
  have h0 : (V.mk 1 n s l).ok = (s.isEmpty && ((l.length : Int) == 0)) := by cases l <;> simp [V.ok]; intro _; omega
  have h1 : ((V.mk 1 n s l).fd : Int) = 0 := by unfold V.fd; split <;> simp [V.depth]
  generalize V.mk 1 n s l = v at *
  have H0 := Lib.hid h0
  have H1 := Lib.hid h1
  clear h0 h1
  go_enter Try.func28, Try.ntmps28
  go_wp2
  all_goals
    go_ret2
    exact formedPost_of (by rw [H0.out]; simp_all) H1.out (((Below.refl _ _).alloc (Nat.le_refl _) _).alloc (by simp) _)

set_option maxHeartbeats 1000000 in
theorem formed_2 (n : Int) (s : List UInt8) (l : List V) (a : Option Addr) (cap : Nat) (w : World) :
    Calls Try.prog 28 #[.agg #[.int .i64 2, .int .i64 n, .string ⟨s.toArray⟩, .slice a l.length cap]] w (FormedPost (.mk 2 n s l) w) := by
  have h0 : (V.mk 2 n s l).ok = ((n == 0) && ((l.length : Int) == 0)) := by cases l <;> simp [V.ok] <;> (try rfl); intro _; omega
  have h1 : ((V.mk 2 n s l).fd : Int) = 0 := by unfold V.fd; split <;> simp [V.depth]
  generalize V.mk 2 n s l = v at *
  have H0 := Lib.hid h0
  have H1 := Lib.hid h1
  clear h0 h1
  go_enter Try.func28, Try.ntmps28
  go_wp2
  all_goals
    go_ret2
    exact formedPost_of (by rw [H0.out]; simp_all) H1.out (((Below.refl _ _).alloc (Nat.le_refl _) _).alloc (by simp) _)


set_option maxHeartbeats 1000000 in
theorem formed_3no (n : Int) (s : List UInt8) (l : List V) (a : Option Addr) (cap : Nat) (w : World) (hns : ¬ (n = 0 ∧ s = [])) :
    Calls Try.prog 28 #[.agg #[.int .i64 3, .int .i64 n, .string ⟨s.toArray⟩, .slice a l.length cap]] w (FormedPost (.mk 3 n s l) w) := by
  have h0 : (V.mk 3 n s l).ok = false := by
    simp only [V.ok]
    rw [if_neg (by decide), if_neg (by decide), if_pos trivial]
    by_cases h : n = 0
    · have : s ≠ [] := fun e => hns ⟨h, e⟩
      cases s with
      | nil => exact absurd rfl this
      | cons x s => simp
    · simp [h]
  have h1 : ((V.mk 3 n s l).fd : Int) = 0 := by unfold V.fd; rw [h0]; rfl
  generalize V.mk 3 n s l = v at *
  have H0 := Lib.hid h0
  have H1 := Lib.hid h1
  clear h0 h1
  by_cases h : n = 0
  · have hs : ¬ s = [] := fun e => hns ⟨h, e⟩
    subst h
    have HN := Lib.hid hs
    clear hns hs
    go_enter Try.func28, Try.ntmps28
    go_wp2

    all_goals first
      | (go_ret2; exact formedPost_of H0.out H1.out (((Below.refl _ _).alloc (Nat.le_refl _) _).alloc (by simp) _))
      | exact absurd (by simpa using ‹(!s.isEmpty) = false›) HN.out
  · clear hns
    go_enter Try.func28, Try.ntmps28
    go_wp2
    all_goals
      go_ret2
      exact formedPost_of H0.out H1.out (((Below.refl _ _).alloc (Nat.le_refl _) _).alloc (by simp) _)
end Go.Proofs.Ytedkoifbjmemdaa
