/- frankingref01.Same; codec.Same -/
import Derived.Test.YtedkoifbjmemdaaMisc
namespace Go.Proofs.Ytedkoifbjmemdaa
set_option linter.unusedSimpArgs false
set_option linter.unusedVariables false
open Go.RowKit
attribute [local go_sem ↓] Go.wp_at_zero Go.wp_at_succ
theorem V.same_false {a b : V} (h : a ≠ b) : V.same a b = false := by
  cases hx : V.same a b with
  | false => rfl
  | true => exact absurd ((V.same_eq a b).1 hx) h
theorem V.same_true {a b : V} (h : a = b) : V.same a b = true := (V.same_eq a b).2 h
theorem take_eq_succ {l l' : List V} {k : Nat} (h : k < l.length) (h' : k < l'.length) (ht : l.take k = l'.take k) (he : l[k] = l'[k]) : l.take (k + 1) = l'.take (k + 1) := by
  rw [List.take_succ_eq_append_getElem h, List.take_succ_eq_append_getElem h', ht, he]

set_option maxRecDepth 100000 in
set_option maxHeartbeats 3200000 in
theorem rsame_no (k n : Int) (s : List UInt8) (l : List V) (a : Option Addr) (cap : Nat) (k' n' : Int) (s' : List UInt8) (l' : List V) (a' : Option Addr) (cap' : Nat) (w : World) (h : ¬ (k = k' ∧ n = n' ∧ s = s' ∧ l.length = l'.length)) :
    Calls Try.prog 20 #[.agg #[.int .i64 k, .int .i64 n, .string ⟨s.toArray⟩, .slice a l.length cap], .agg #[.int .i64 k', .int .i64 n', .string ⟨s'.toArray⟩, .slice a' l'.length cap']] w (Gives (.bool (V.same (.mk k n s l) (.mk k' n' s' l'))) w) := by
  have h0 : V.same (.mk k n s l) (.mk k' n' s' l') = false := V.same_false (fun e => h (by injection e with e1 e2 e3 e4; subst e1 e2 e3 e4; exact ⟨rfl, rfl, rfl, rfl⟩))
  rw [h0]
  clear h0
  unfold Gives
  by_cases h1 : k = k'
  · subst h1
    by_cases h2 : n = n'
    · subst h2
      by_cases h3 : s = s'
      · subst h3
        have h4 : ¬ l.length = l'.length := fun e => h ⟨rfl, rfl, rfl, e⟩
        have g4 : ((l.length : Int) != (l'.length : Int)) = true := by simp; omega
        clear h
        go_enter Try.func20, Try.ntmps20
        go_wp2
        go_ret
        exact ⟨rfl, ((Below.refl _ _).alloc (Nat.le_refl _) _).alloc (by simp) _⟩
      · clear h
        have g3 : (s != s') = true := by simpa using h3
        go_enter Try.func20, Try.ntmps20
        go_wp2
        go_ret
        exact ⟨rfl, ((Below.refl _ _).alloc (Nat.le_refl _) _).alloc (by simp) _⟩
    · clear h
      have g2 : (n != n') = true := by simpa using h2
      go_enter Try.func20, Try.ntmps20
      go_wp2
      go_ret
      exact ⟨rfl, ((Below.refl _ _).alloc (Nat.le_refl _) _).alloc (by simp) _⟩
  · clear h
    have g1 : (k != k') = true := by simpa using h1
    go_enter Try.func20, Try.ntmps20
    go_wp2
    go_ret
    exact ⟨rfl, ((Below.refl _ _).alloc (Nat.le_refl _) _).alloc (by simp) _⟩

set_option maxRecDepth 100000 in
set_option maxHeartbeats 3200000 in
theorem rsame_yes (k n : Int) (s : List UInt8) (l : List V) (a : Option Addr) (cap : Nat) (l' : List V) (a' : Option Addr) (cap' : Nat) (w : World) (hlen : l'.length = l.length) (hr : RepL w l a) (hr' : RepL w l' a') (hl : l.length ≤ cap) (hc : l.length ≤ 140737488351232) (hl' : l'.length ≤ cap')
    (ih : ∀ v, v ∈ l → ∀ v' w c c', RepV w v c → RepV w v' c' → Calls Try.prog 20 #[c, c'] w (Gives (.bool (V.same v v')) w)) :
    Calls Try.prog 20 #[.agg #[.int .i64 k, .int .i64 n, .string ⟨s.toArray⟩, .slice a l.length cap], .agg #[.int .i64 k, .int .i64 n, .string ⟨s.toArray⟩, .slice a' l'.length cap']] w (Gives (.bool (V.same (.mk k n s l) (.mk k n s l'))) w) := by
  have HR := Lib.hid hr
  have HR' := Lib.hid hr'
  have IH := Lib.hid ih
  have HL := Lib.hid hlen
  clear hr hr' ih
  obtain ⟨z, hz⟩ : ∃ z, V.same (.mk k n s l) (.mk k n s l') = z := ⟨_, rfl⟩
  rw [hz]
  have HZ := Lib.hid hz
  clear hz
  rw [hlen] at hl' ⊢
  clear hlen
  unfold Gives
  go_enter Try.func20, Try.ntmps20
  go_wp2
  go_loopw [5] (fun i wr => ∃ j : Nat, j ≤ l.length ∧ i = .int .i64 j ∧ Hid (l.take j = l'.take j) ∧ Below (w.heap.size + 2) ((w.alloc (.cells #[.int .i64 k, .int .i64 n, .string ⟨s.toArray⟩, .slice a l.length cap] 24)).alloc (.cells #[.int .i64 k, .int .i64 n, .string ⟨s.toArray⟩, .slice a' l.length cap'] 24)) wr) (fun i _ => l.length - (intOf i).toNat)
  case atStart => exact ⟨0, Nat.zero_le _, rfl, by simp [Hid], Below.refl _ _⟩
  case round =>
    obtain ⟨j, hj, rfl, ht, hb⟩ := hrel
    have q3 : wr.cell? ⟨w.heap.size, 3, none⟩ = some (.slice a l.length cap) := (hb.cell (by simp <;> omega)).trans (by go_simp)
    have q4 : wr.cell? ⟨w.heap.size + 1, 3, none⟩ = some (.slice a' l.length cap') := (hb.cell (by simp <;> omega)).trans (by go_simp)
    have hb0 : Below w.heap.size w wr := (((Below.refl _ _).alloc (Nat.le_refl _) _).alloc (by simp) _).trans (hb.mono (by omega))
    by_cases hlt : j < l.length
    · have hlt' : j < l'.length := by have := HL.out; omega
      obtain ⟨b, off, k0, n0, s0, a1, len1, cap1, rfl, g0, g1, g2, g3, hv⟩ := (RepL.below hb0 HR.out).at j hlt
      obtain ⟨b', off', k0', n0', s0', a1', len1', cap1', rfl, g0', g1', g2', g3', hv'⟩ := (RepL.below hb0 HR'.out).at j hlt'
      have HV := Lib.hid hv
      have HV' := Lib.hid hv'
      have hi0 : (0 : Int) ≤ (j : Int) := Int.natCast_nonneg _
      have hi1 : (j : Int) < (l.length : Int) := by omega
      clear hv hv'
      by_cases hs : l[j] = l'[j]
      · skip
        have HC : Hid (∀ W, Below wr.heap.size wr W → Calls Try.prog 20 #[.agg #[.int .i64 k0, .int .i64 n0, .string s0, .slice a1 len1 cap1], .agg #[.int .i64 k0', .int .i64 n0', .string s0', .slice a1' len1' cap1']] W (Gives (.bool true) W)) := fun W h => by
          rw [← V.same_true hs]; exact IH.out l[j] (List.getElem_mem _) l'[j] W _ _ (RepV.below h HV.out) (RepV.below h HV'.out)
        have HS := Lib.hid hs
        clear hs
        go_wp2_with fail
        go_region_held3 (fun w' => w'.cell? ⟨w.heap.size, 3, none⟩ = some (.slice (some ⟨b, off, none⟩) l.length cap) ∧ w'.cell? ⟨w.heap.size + 1, 3, none⟩ = some (.slice (some ⟨b', off', none⟩) l.length cap') ∧
            w'.cell? ⟨b, off + j * 4, none⟩ = some (.int .i64 k0) ∧ w'.cell? ⟨b, off + j * 4 + 1, none⟩ = some (.int .i64 n0) ∧ w'.cell? ⟨b, off + j * 4 + 2, none⟩ = some (.string s0) ∧ w'.cell? ⟨b, off + j * 4 + 3, none⟩ = some (.slice a1 len1 cap1) ∧
            w'.cell? ⟨b', off' + j * 4, none⟩ = some (.int .i64 k0') ∧ w'.cell? ⟨b', off' + j * 4 + 1, none⟩ = some (.int .i64 n0') ∧ w'.cell? ⟨b', off' + j * 4 + 2, none⟩ = some (.string s0') ∧ w'.cell? ⟨b', off' + j * 4 + 3, none⟩ = some (.slice a1' len1' cap1'))
          (first
            | go_keep
            | (go_split_ands; refine ⟨?_, ?_, ?_, ?_, ?_, ?_, ?_, ?_, ?_, ?_⟩ <;> exact below_cell hb1 ‹_›))
          (first
            | (go_at_call 20; ((with_reducible refine (HC.out _ (Below.refl _ _).drew).mono ?_)); rintro e w1 ⟨rfl, hb1⟩))
        have hbb := hb.trans ((Below.refl _ wr).drew.trans (hb1.mono (by have := hb.size; simpa using this)))
        have hb0' := hb0.trans ((Below.refl _ wr).drew.trans (hb1.mono hb0.size))
        go_wp2
        go_roundw
        case rel => exact ⟨j + 1, by omega, by go_num, take_eq_succ hlt hlt' ht.out HS.out, hbb⟩
        case measure => simp [intOf]; omega
      · skip
        have HC : Hid (∀ W, Below wr.heap.size wr W → Calls Try.prog 20 #[.agg #[.int .i64 k0, .int .i64 n0, .string s0, .slice a1 len1 cap1], .agg #[.int .i64 k0', .int .i64 n0', .string s0', .slice a1' len1' cap1']] W (Gives (.bool false) W)) := fun W h => by
          rw [← V.same_false hs]; exact IH.out l[j] (List.getElem_mem _) l'[j] W _ _ (RepV.below h HV.out) (RepV.below h HV'.out)
        have HS := Lib.hid hs
        clear hs
        go_wp2_with fail
        go_region_held3 (fun w' => w'.cell? ⟨w.heap.size, 3, none⟩ = some (.slice (some ⟨b, off, none⟩) l.length cap) ∧ w'.cell? ⟨w.heap.size + 1, 3, none⟩ = some (.slice (some ⟨b', off', none⟩) l.length cap') ∧
            w'.cell? ⟨b, off + j * 4, none⟩ = some (.int .i64 k0) ∧ w'.cell? ⟨b, off + j * 4 + 1, none⟩ = some (.int .i64 n0) ∧ w'.cell? ⟨b, off + j * 4 + 2, none⟩ = some (.string s0) ∧ w'.cell? ⟨b, off + j * 4 + 3, none⟩ = some (.slice a1 len1 cap1) ∧
            w'.cell? ⟨b', off' + j * 4, none⟩ = some (.int .i64 k0') ∧ w'.cell? ⟨b', off' + j * 4 + 1, none⟩ = some (.int .i64 n0') ∧ w'.cell? ⟨b', off' + j * 4 + 2, none⟩ = some (.string s0') ∧ w'.cell? ⟨b', off' + j * 4 + 3, none⟩ = some (.slice a1' len1' cap1'))
          (first
            | go_keep
            | (go_split_ands; refine ⟨?_, ?_, ?_, ?_, ?_, ?_, ?_, ?_, ?_, ?_⟩ <;> exact below_cell hb1 ‹_›))
          (first
            | (go_at_call 20; ((with_reducible refine (HC.out _ (Below.refl _ _).drew).mono ?_)); rintro e w1 ⟨rfl, hb1⟩))
        have hbb := hb.trans ((Below.refl _ wr).drew.trans (hb1.mono (by have := hb.size; simpa using this)))
        have hb0' := hb0.trans ((Below.refl _ wr).drew.trans (hb1.mono hb0.size))
        go_wp2
        go_ret
        refine ⟨ret_bool ?_, hb0'⟩
        rw [← HZ.out]
        symm
        refine V.same_false fun e => HS.out ?_
        injection e with e1 e2 e3 e4
        subst e4
        rfl
    · go_wp2
      go_ret
      refine ⟨ret_bool ?_, hb0⟩
      rw [← HZ.out]
      symm
      refine V.same_true ?_
      have h1 : l = l' := by
        have h2 := ht.out
        rw [List.take_of_length_le (by omega), List.take_of_length_le (by have := HL.out; omega)] at h2
        exact h2
      rw [h1]

theorem rsame_any (m : Nat) : ∀ (v v' : V) (w : World) (c c' : Value), SizeOf.sizeOf v ≤ m → RepV w v c → RepV w v' c' → Calls Try.prog 20 #[c, c'] w (Gives (.bool (V.same v v')) w) := by
  induction m with
  | zero => intro v v' w c c' hm; cases v; simp at hm
  | succ m ih =>
    intro v v' w c c' hm hr hr'
    obtain ⟨k, n, s, l⟩ := v
    obtain ⟨k', n', s', l'⟩ := v'
    simp only [RepV] at hr hr'
    obtain ⟨a, cap, rfl, hk, hn, hs, hl, hcap, hrl⟩ := hr
    obtain ⟨a', cap', rfl, hk', hn', hs', hl', hcap', hrl'⟩ := hr'
    by_cases h : k = k' ∧ n = n' ∧ s = s' ∧ l.length = l'.length
    · obtain ⟨rfl, rfl, rfl, hlen⟩ := h
      refine rsame_yes k n s l a cap l' a' cap' w hlen.symm hrl hrl' hl hcap hl' fun x hx x' w' c c' h1 h2 => ih x x' w' c c' ?_ h1 h2
      have := List.sizeOf_lt_of_mem hx
      simp at hm; omega
    · exact rsame_no k n s l a cap k' n' s' l' a' cap' w h
end Go.Proofs.Ytedkoifbjmemdaa
