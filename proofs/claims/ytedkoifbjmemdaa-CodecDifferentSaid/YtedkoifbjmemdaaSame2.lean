/- codec.Same -/
import Derived.Test.YtedkoifbjmemdaaSame
namespace Go.Proofs.Ytedkoifbjmemdaa
set_option linter.unusedSimpArgs false
set_option linter.unusedVariables false
open Go.RowKit
attribute [local go_sem ↓] Go.wp_at_zero Go.wp_at_succ
theorem V.sames_false {a b : List V} (h : a ≠ b) : V.sames a b = false := by
  cases hx : V.sames a b with
  | false => rfl
  | true => exact absurd ((V.sames_eq a b).1 hx) h
theorem V.sames_true {a b : List V} (h : a = b) : V.sames a b = true := (V.sames_eq a b).2 h

set_option maxRecDepth 100000 in
set_option maxHeartbeats 3200000 in
theorem equalFunc_any (l : List V) (a : Option Addr) (cap : Nat) (l' : List V) (a' : Option Addr) (cap' : Nat) (w : World) (hr : RepL w l a) (hr' : RepL w l' a') (hl : l.length ≤ cap) (hc : l.length ≤ 140737488351232) (hl' : l'.length ≤ cap') (hc' : l'.length ≤ 140737488351232)
    (ih : ∀ v, v ∈ l → ∀ v' w c c', RepV w v c → RepV w v' c' → Calls Try.prog 21 #[c, c'] w (Gives (.bool (V.same v v')) w)) :
    Calls Try.prog 35 #[.slice a l.length cap, .slice a' l'.length cap', .func (.func 21) #[] #[]] w (Gives (.bool (V.sames l l')) w) := by
  have HR := Lib.hid hr
  have HR' := Lib.hid hr'
  have IH := Lib.hid ih
  clear hr hr' ih
  by_cases hlen : l'.length = l.length
  · have HL := Lib.hid hlen
    obtain ⟨z, hz⟩ : ∃ z, V.sames l l' = z := ⟨_, rfl⟩
    rw [hz]
    have HZ := Lib.hid hz
    clear hz
    rw [hlen] at hl' ⊢
    clear hlen
    unfold Gives
    go_enter Try.func35, Try.ntmps35
    go_wp2
    go_loopw [17] (fun i wr => ∃ j : Nat, j ≤ l.length ∧ i = .int .i64 j ∧ Hid (l.take j = l'.take j) ∧ Below w.heap.size w wr) (fun i _ => l.length - (intOf i).toNat)
    case atStart => exact ⟨0, Nat.zero_le _, rfl, by simp [Hid], Below.refl _ _⟩
    case round =>
      obtain ⟨j, hj, rfl, ht, hb0⟩ := hrel
      by_cases hlt : j < l.length
      · have hlt' : j < l'.length := by have := HL.out; omega
        obtain ⟨b, off, k0, n0, s0, a1, len1, cap1, rfl, g0, g1, g2, g3, hv⟩ := (RepL.below hb0 HR.out).at j hlt
        obtain ⟨b', off', k0', n0', s0', a1', len1', cap1', rfl, g0', g1', g2', g3', hv'⟩ := (RepL.below hb0 HR'.out).at j hlt'
        have HV := Lib.hid hv
        have HV' := Lib.hid hv'
        have hlb' : b' < wr.heap.size := World.block_lt_of_cell? _ _ g0'
        have hbx : Below w.heap.size w ((wr.alloc (.cells #[.int .i64 k0, .int .i64 n0, .string s0, .slice a1 len1 cap1] 24)).alloc (.cells #[.int .i64 k0', .int .i64 n0', .string s0', .slice a1' len1' cap1'] 24)) := (hb0.alloc hb0.size _).alloc (by have := hb0.size; simp; omega) _
        clear hv hv'
        by_cases hs : l[j] = l'[j]
        · have HC : Hid (∀ W, Below wr.heap.size wr W → Calls Try.prog 21 #[.agg #[.int .i64 k0, .int .i64 n0, .string s0, .slice a1 len1 cap1], .agg #[.int .i64 k0', .int .i64 n0', .string s0', .slice a1' len1' cap1']] W (Gives (.bool true) W)) := fun W h => by
            rw [← V.same_true hs]; exact IH.out l[j] (List.getElem_mem _) l'[j] W _ _ (RepV.below h HV.out) (RepV.below h HV'.out)
          have HS := Lib.hid hs
          clear hs
          go_wp2_with fail
          refine (HC.out _ (((Below.refl _ _).alloc (Nat.le_refl _) _).alloc (by simp) _)).mono ?_
          rintro e w1 ⟨rfl, hb1⟩
          have hbb := hbx.trans (hb1.mono hbx.size)
          go_wp2
          go_roundw
          case rel => exact ⟨j + 1, by omega, by go_num, take_eq_succ hlt hlt' ht.out HS.out, hbb⟩
          case measure => simp [intOf]; omega
        · have HC : Hid (∀ W, Below wr.heap.size wr W → Calls Try.prog 21 #[.agg #[.int .i64 k0, .int .i64 n0, .string s0, .slice a1 len1 cap1], .agg #[.int .i64 k0', .int .i64 n0', .string s0', .slice a1' len1' cap1']] W (Gives (.bool false) W)) := fun W h => by
            rw [← V.same_false hs]; exact IH.out l[j] (List.getElem_mem _) l'[j] W _ _ (RepV.below h HV.out) (RepV.below h HV'.out)
          have HS := Lib.hid hs
          clear hs
          go_wp2_with fail
          refine (HC.out _ (((Below.refl _ _).alloc (Nat.le_refl _) _).alloc (by simp) _)).mono ?_
          rintro e w1 ⟨rfl, hb1⟩
          have hbb := hbx.trans (hb1.mono hbx.size)
          go_wp2
          go_ret
          refine ⟨ret_bool ?_, hbb⟩
          rw [← HZ.out]
          symm
          refine V.sames_false fun e => HS.out ?_
          subst e
          rfl
      · go_wp2
        go_ret
        refine ⟨ret_bool ?_, hb0⟩
        rw [← HZ.out]
        symm
        refine V.sames_true ?_
        have h2 := ht.out
        rw [List.take_of_length_le (by omega), List.take_of_length_le (by have := HL.out; omega)] at h2
        exact h2
  · have h0 : V.sames l l' = false := V.sames_false (fun e => hlen (by rw [e]))
    rw [h0]
    have g : ((l.length : Int) != (l'.length : Int)) = true := by simp; omega
    unfold Gives
    clear h0 hlen
    go_enter Try.func35, Try.ntmps35
    go_wp2
    go_ret
    exact ⟨rfl, Below.refl _ _⟩

set_option maxRecDepth 100000 in
set_option maxHeartbeats 3200000 in
theorem same_step (k n : Int) (s : List UInt8) (l : List V) (a : Option Addr) (cap : Nat) (k' n' : Int) (s' : List UInt8) (l' : List V) (a' : Option Addr) (cap' : Nat) (w : World)
    (hf : ∀ W, Below w.heap.size w W → Calls Try.prog 35 #[.slice a l.length cap, .slice a' l'.length cap', .func (.func 21) #[] #[]] W (Gives (.bool (V.sames l l')) W)) :
    Calls Try.prog 21 #[.agg #[.int .i64 k, .int .i64 n, .string ⟨s.toArray⟩, .slice a l.length cap], .agg #[.int .i64 k', .int .i64 n', .string ⟨s'.toArray⟩, .slice a' l'.length cap']] w (Gives (.bool (V.same (.mk k n s l) (.mk k' n' s' l'))) w) := by
  have HF := Lib.hid hf
  clear hf
  unfold Gives
  by_cases h1 : k = k'
  · subst h1
    by_cases h2 : n = n'
    · subst h2
      by_cases h3 : s = s'
      · subst h3
        have h0 : V.same (.mk k n s l) (.mk k n s l') = V.sames l l' := by simp [V.same]
        rw [h0]
        clear h0
        go_enter Try.func21, Try.ntmps21
        go_wp2_with fail
        refine (HF.out _ (((Below.refl _ _).alloc (Nat.le_refl _) _).alloc (by simp) _)).mono ?_
        rintro e w1 ⟨rfl, hb1⟩
        go_wp2
        go_ret
        exact ⟨rfl, (((Below.refl _ _).alloc (Nat.le_refl _) _).alloc (by simp) _).trans (hb1.mono (by simp; omega))⟩
      · rw [V.same_false (fun e => by injection e with e1 e2 e3 e4; exact h3 e3)]
        have g3 : (s == s') = false := by simpa using h3
        go_enter Try.func21, Try.ntmps21
        go_wp2
        go_ret
        exact ⟨rfl, ((Below.refl _ _).alloc (Nat.le_refl _) _).alloc (by simp) _⟩
    · rw [V.same_false (fun e => by injection e with e1 e2 e3 e4; exact h2 e2)]
      have g2 : (n == n') = false := by simpa using h2
      go_enter Try.func21, Try.ntmps21
      go_wp2
      go_ret
      exact ⟨rfl, ((Below.refl _ _).alloc (Nat.le_refl _) _).alloc (by simp) _⟩
  · rw [V.same_false (fun e => by injection e with e1 e2 e3 e4; exact h1 e1)]
    have g1 : (k == k') = false := by simpa using h1
    go_enter Try.func21, Try.ntmps21
    go_wp2
    go_ret
    exact ⟨rfl, ((Below.refl _ _).alloc (Nat.le_refl _) _).alloc (by simp) _⟩

theorem same_any (m : Nat) : ∀ (v v' : V) (w : World) (c c' : Value), SizeOf.sizeOf v ≤ m → RepV w v c → RepV w v' c' → Calls Try.prog 21 #[c, c'] w (Gives (.bool (V.same v v')) w) := by
  induction m with
  | zero => intro v v' w c c' hm; cases v; simp at hm
  | succ m ih =>
    intro v v' w c c' hm hr hr'
    obtain ⟨k, n, s, l⟩ := v
    obtain ⟨k', n', s', l'⟩ := v'
    simp only [RepV] at hr hr'
    obtain ⟨a, cap, rfl, hk, hn, hs, hl, hcap, hrl⟩ := hr
    obtain ⟨a', cap', rfl, hk', hn', hs', hl', hcap', hrl'⟩ := hr'
    refine same_step k n s l a cap k' n' s' l' a' cap' w fun W hb => ?_
    refine equalFunc_any l a cap l' a' cap' W (RepL.below hb hrl) (RepL.below hb hrl') hl hcap hl' hcap' fun x hx x' w' c c' h1 h2 => ih x x' w' c c' ?_ h1 h2
    have := List.sizeOf_lt_of_mem hx
    simp at hm; omega
end Go.Proofs.Ytedkoifbjmemdaa
