/- codec: the reader -/
import Derived.Test.YtedkoifbjmemdaaSame2
namespace Go.Proofs.Ytedkoifbjmemdaa
set_option linter.unusedSimpArgs false
set_option linter.unusedVariables false
open Go.RowKit
attribute [local go_sem ↓] Go.wp_at_zero Go.wp_at_succ
/-- a slice of bytes, wherever it lies -/
def Bytes (w : World) (a : Option Addr) (bs : List UInt8) : Prop :=
  bs = [] ∨ ∃ b off, a = some ⟨b, off, none⟩ ∧ ∀ i (h : i < bs.length), w.cell? ⟨b, off + i, none⟩ = some (byteV bs[i])
theorem Bytes.keep {w w' : World} {a : Option Addr} {bs : List UInt8} (h : Bytes w a bs) (hk : ∀ p v, w.cell? p = some v → (∀ b off, a = some ⟨b, off, none⟩ → p.block = b) → w'.cell? p = some v) : Bytes w' a bs := by
  rcases h with h | ⟨b, off, rfl, hc⟩
  · exact .inl h
  · exact .inr ⟨b, off, rfl, fun i hi => hk _ _ (hc i hi) (fun b' off' e => by cases e; rfl)⟩
theorem Bytes.below {w w' : World} {a : Option Addr} {bs : List UInt8} (h : Bytes w a bs) (hb : Below w.heap.size w w') : Bytes w' a bs := h.keep fun _ _ hc _ => below_cell hb hc
theorem Bytes.take {w : World} {a : Option Addr} {bs : List UInt8} (h : Bytes w a bs) (n : Nat) : Bytes w a (bs.take n) := by
  rcases h with h | ⟨b, off, rfl, hc⟩
  · left; simp [h]
  · exact .inr ⟨b, off, rfl, fun i hi => by simp at hi; simpa using hc i (by omega)⟩
/-- the address of s[n:] -/
def cutA (a : Option Addr) (cap n : Nat) : Option Addr := if cap = n then a else a.map (·.add n)
theorem Bytes.drop {w : World} {a : Option Addr} {bs : List UInt8} {cap : Nat} (h : Bytes w a bs) (hcap : bs.length ≤ cap) (n : Nat) : Bytes w (cutA a cap n) (bs.drop n) := by
  by_cases hn : bs.length ≤ n
  · left; simp [hn]
  · rcases h with h | ⟨b, off, rfl, hc⟩
    · left; simp [h]
    · right
      unfold cutA
      rw [if_neg (by omega)]
      refine ⟨b, off + n, ?_, fun i hi => ?_⟩
      · simp only [Option.map_some, Addr.add]
        split
        · rename_i h0; simp [h0]
        · rfl
      · simp at hi
        have := hc (n + i) (by omega)
        rw [Nat.add_assoc]
        simpa using this
/-- The reader in block B: what is left to be read. The bytes lie below it. -/
def Rd (w : World) (B : Nat) (bs : List UInt8) : Prop :=
  ∃ a cap, w.heap[B]? = some (.cells #[.slice a bs.length cap] 58 (0, 0)) ∧ bs.length ≤ cap ∧ bs.length ≤ 1000000 ∧ Bytes w a bs ∧ (∀ ad, a = some ad → ad.block < B)
def codeP : List PanicEntry := [{ v := .iface 28 (.int .i64 10), recovered := false }]
set_option maxHeartbeats 1000000 in
theorem want_yes (p : Value) (w : World) : Calls Try.prog 33 #[p, .bool true] w fun e w' => e = .returned (.tuple #[]) ∧ w = w' := by
  go_enter Try.func33, Try.ntmps33
  go_wp2
  go_end0
  exact ⟨rfl, rfl⟩
set_option maxHeartbeats 1000000 in
theorem want_no (p : Value) (w : World) : Calls Try.prog 33 #[p, .bool false] w fun e w' => e = .panicked codeP ∧ w = w' := by
  go_enter Try.func33, Try.ntmps33
  go_wp2
  exact ⟨rfl, rfl, rfl⟩
set_option maxRecDepth 100000 in
set_option maxHeartbeats 1000000 in
theorem take_yes (B : Nat) (a : Option Addr) (len cap : Nat) (n : Nat) (w : World) (hB : w.heap[B]? = some (.cells #[.slice a len cap] 58 (0, 0))) (hcap : len ≤ cap) (hc2 : len ≤ 140737488351232) (hn : n ≤ len) :
    Calls Try.prog 44 #[.pointer (some ⟨B, 0, none⟩), .int .i64 n] w fun e w' => e = .returned (.slice a n n) ∧ w' = w.setCell ⟨B, 0, none⟩ (.slice (cutA a cap n) (len - n) (cap - n)) := by
  have hc : w.cell? ⟨B, 0, none⟩ = some (.slice a len cap) := by simp [World.cell?, hB]
  have hf : w.frozen? ⟨B, 0, none⟩ = false := by simp [World.frozen?, hB]
  clear hB
  have HW : Hid (∀ p w, Calls Try.prog 33 #[p, .bool true] w fun e w' => e = .returned (.tuple #[]) ∧ w = w') := want_yes
  go_enter Try.func44, Try.ntmps44
  go_wp2_with fail
  refine (HW.out _ _).mono ?_
  rintro e w' ⟨rfl, rfl⟩
  go_wp2
  all_goals
    go_ret
    exact ⟨rfl, by simp [cutA, *]⟩
set_option maxRecDepth 100000 in
set_option maxHeartbeats 1000000 in
theorem take_no (B : Nat) (a : Option Addr) (len cap : Nat) (n : Int) (w : World) (hB : w.heap[B]? = some (.cells #[.slice a len cap] 58 (0, 0))) (hn : (len : Int) < n) :
    Calls Try.prog 44 #[.pointer (some ⟨B, 0, none⟩), .int .i64 n] w fun e w' => e = .panicked codeP ∧ w = w' := by
  have hc : w.cell? ⟨B, 0, none⟩ = some (.slice a len cap) := by simp [World.cell?, hB]
  clear hB
  have HW : Hid (∀ p w, Calls Try.prog 33 #[p, .bool false] w fun e w' => e = .panicked codeP ∧ w = w') := want_no
  have hd : decide (n ≤ (len : Int)) = false := by simp; omega
  go_enter Try.func44, Try.ntmps44
  go_wp2_with fail
  with_reducible refine (HW.out _ _).mono ?_
  rintro e w' ⟨rfl, rfl⟩
  exact ⟨rfl, rfl, rfl⟩

theorem cell_of {w : World} {B : Nat} {v : Value} {t : TypeId} (h : w.heap[B]? = some (.cells #[v] t (0, 0))) : w.cell? ⟨B, 0, none⟩ = some v := by simp [World.cell?, h]
theorem heap_setCell1 {w : World} {B : Nat} {v u : Value} {t : TypeId} (h : w.heap[B]? = some (.cells #[v] t (0, 0))) : (w.setCell ⟨B, 0, none⟩ u).heap[B]? = some (.cells #[u] t (0, 0)) := by
  simp only [World.setCell, Array.getElem?_modify, h]
  simp
theorem grownBy_setCell1 (w : World) (B : Nat) (u : Value) : w.grownBy (w.setCell ⟨B, 0, none⟩ u) (some B) :=
  ⟨rfl, rfl, rfl, by simp [World.setCell], fun k _ hk => Below.heap_setCell w ⟨B, 0, none⟩ u k (fun e => hk (by rw [e]))⟩
theorem take_rd {B : Nat} {bs : List UInt8} {w : World} (hr : Rd w B bs) (n : Nat) (hn : n ≤ bs.length) :
    Calls Try.prog 44 #[.pointer (some ⟨B, 0, none⟩), .int .i64 n] w fun e w' => ∃ a, e = .returned (.slice a n n) ∧ Bytes w' a (bs.take n) ∧ (∀ ad, a = some ad → ad.block < B) ∧ Rd w' B (bs.drop n) ∧ w.grownBy w' (some B) := by
  obtain ⟨a, cap, hB, hl, hcap, hby, hlt⟩ := hr
  refine (take_yes B a bs.length cap n w hB hl (by omega) hn).mono ?_
  rintro e w' ⟨rfl, rfl⟩
  have hlt2 : ∀ ad, cutA a cap n = some ad → ad.block < B := by
    intro ad h
    unfold cutA at h
    split at h
    · exact hlt ad h
    · cases ha : a with
      | none => rw [ha] at h; cases h
      | some x =>
        rw [ha] at h
        simp only [Option.map_some, Option.some.injEq] at h
        subst h
        have := hlt x ha
        unfold Addr.add
        split <;> exact this
  have hkeep : ∀ a' u, (∀ ad, a' = some ad → ad.block < B) → Bytes w a' u → Bytes (w.setCell ⟨B, 0, none⟩ (.slice (cutA a cap n) (bs.length - n) (cap - n))) a' u := by
    intro a' u h1 hu
    rcases hu with h | ⟨b, off, rfl, hc⟩
    · exact .inl h
    · have := h1 _ rfl
      exact .inr ⟨b, off, rfl, fun i hi => (grownBy_setCell1 w B _).cell (hc i hi) (fun e => by injection e with e; have e' : b = B := e; have h2 : b < B := this; omega)⟩
  refine ⟨a, rfl, hkeep a _ hlt (hby.take n), hlt, ⟨cutA a cap n, cap - n, ?_, ?_, by simp; omega, hkeep _ _ hlt2 (hby.drop hl n), hlt2⟩, grownBy_setCell1 w B _⟩
  · rw [List.length_drop]
    exact heap_setCell1 hB
  · rw [List.length_drop]; omega
theorem take_rd_no {B : Nat} {bs : List UInt8} {w : World} (hr : Rd w B bs) (n : Int) (hn : (bs.length : Int) < n) :
    Calls Try.prog 44 #[.pointer (some ⟨B, 0, none⟩), .int .i64 n] w fun e w' => e = .panicked codeP ∧ w = w' := by
  obtain ⟨a, cap, hB, hl, hcap, hby, hlt⟩ := hr
  exact take_no B a bs.length cap n w hB hn
end Go.Proofs.Ytedkoifbjmemdaa
