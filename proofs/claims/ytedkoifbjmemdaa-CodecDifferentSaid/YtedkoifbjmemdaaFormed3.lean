/- codec.formed, lists -/
import Derived.Test.YtedkoifbjmemdaaFormed
namespace Go.Proofs.Ytedkoifbjmemdaa
set_option linter.unusedSimpArgs false
set_option linter.unusedVariables false
open Go.RowKit
theorem V.depths_take_succ (l : List V) (k : Nat) (h : k < l.length) : V.depths (l.take (k + 1)) = max (V.depths (l.take k)) l[k].depth := by
  induction l generalizing k with
  | nil => simp at h
  | cons v l ih =>
    cases k with
    | zero => simp [V.depths]
    | succ k => simp only [List.take_succ_cons, V.depths, List.getElem_cons_succ]; rw [ih k (by simpa using h)]; omega
theorem V.depths_take_le (l : List V) (k : Nat) : V.depths (l.take k) ≤ V.depths l := by
  induction l generalizing k with
  | nil => simp
  | cons v l ih =>
    cases k with
    | zero => simp [V.depths]
    | succ k => simp only [List.take_succ_cons, V.depths]; have := ih k; omega
theorem V.depth_mem {v : V} : ∀ {l : List V}, v ∈ l → v.depth ≤ V.depths l
  | [], h => by simp at h
  | x :: l, h => by
    simp only [V.depths]
    rcases List.mem_cons.1 h with rfl | h
    · omega
    · have := V.depth_mem h; omega
theorem V.oks_take_succ (l : List V) (k : Nat) (h : k < l.length) : V.oks (l.take (k + 1)) = (V.oks (l.take k) && l[k].ok) := by
  induction l generalizing k with
  | nil => simp at h
  | cons v l ih =>
    cases k with
    | zero => simp [V.oks]
    | succ k => simp only [List.take_succ_cons, V.oks, List.getElem_cons_succ]; rw [ih k (by simpa using h), Bool.and_assoc]
theorem V.oks_false (l : List V) (k : Nat) (h : k < l.length) (hk : l[k].ok = false) : V.oks l = false := by
  induction l generalizing k with
  | nil => simp at h
  | cons v l ih =>
    cases k with
    | zero => simp at hk; simp [V.oks, hk]
    | succ k => simp only [V.oks]; rw [ih k (by simpa using h) (by simpa using hk), Bool.and_false]

set_option maxHeartbeats 1000000 in
theorem formed_3 (l : List V) (a : Option Addr) (cap : Nat) (w : World) (hr : RepL w l a) (hl : l.length ≤ cap) (hc : l.length ≤ 140737488351232) (hd : V.depths l ≤ 1000000)
    (ih : ∀ v, v ∈ l → ∀ w c, RepV w v c → Calls Try.prog 28 #[c] w (FormedPost v w)) :
    Calls Try.prog 28 #[.agg #[.int .i64 3, .int .i64 0, .string ⟨#[]⟩, .slice a l.length cap]] w (FormedPost (.mk 3 0 [] l) w) := by
  have HR := Lib.hid hr
  have IH := Lib.hid ih
  clear hr ih
  obtain ⟨z, hz⟩ : ∃ z, ((l.length : Int) == 0) = z := ⟨_, rfl⟩
  go_enter Try.func28, Try.ntmps28
  go_wp2
  clear hz
  go_loopw [2, 57] (fun d i wr => ∃ k : Nat, k ≤ l.length ∧ i = .int .i64 k ∧ d = .int .i64 (V.depths (l.take k) : Nat) ∧ Hid (V.oks (l.take k) = true) ∧ Below w.heap.size w wr) (fun _ i _ => l.length - (intOf i).toNat)
  case atStart => exact ⟨0, Nat.zero_le _, rfl, by simp [V.depths], by simp [V.oks, Hid], ((Below.refl _ _).alloc (Nat.le_refl _) _).alloc (by simp) _⟩
  case round =>
    obtain ⟨k, hk, rfl, rfl, hoks, hb⟩ := hrel
    by_cases hlt : k < l.length
    · obtain ⟨b, off, k0, n0, s0, a', len', cap', rfl, g0, g1, g2, g3, hv⟩ := (RepL.below hb HR.out).at k hlt
      have HV := Lib.hid hv
      clear hv
      go_wp2_with fail
      refine (IH.out l[k] (List.getElem_mem _) _ _ (RepV.below (((Below.refl _ _).alloc (Nat.le_refl _) _)) HV.out)).mono ?_
      rintro e w1 ⟨rfl, hb1⟩
      have hbb : Below w.heap.size w w1 := hb.trans (((Below.refl w.heap.size wr).alloc hb.size _).trans (hb1.mono (by have := hb.size; simp; omega)))
      by_cases hok : l[k].ok = true
      · go_wp2
        go_roundw
        case rel =>
          refine ⟨k + 1, by omega, by go_num, ?_, ?_, hbb⟩
          · rw [V.depths_take_succ l k hlt]
            have : l[k].fd = l[k].depth := by unfold V.fd; rw [hok]; rfl
            rw [this]
            congr 1
            split <;> omega
          · unfold Hid; rw [V.oks_take_succ l k hlt, hoks.out, hok]; rfl
        case measure => simp [intOf]; omega
      · have hok' : l[k].ok = false := by simpa using hok
        clear hok
        go_wp2
        go_ret2
        exact formedPost_of (by simp [V.ok, V.oks_false l k hlt hok']) (by simp [V.fd, V.ok, V.oks_false l k hlt hok']) hbb
    · have hkl : k = l.length := by omega
      have hd' := hoks.out
      rw [hkl, List.take_length] at hd'
      have e1 : (V.mk 3 0 [] l).ok = true := by simp [V.ok, hd']
      have e2 : (((V.mk 3 0 [] l).fd : Nat) : Int) = (V.depths (l.take k) : Nat) + 1 := by unfold V.fd; rw [e1, hkl, List.take_length]; simp [V.depth]
      have e3 := V.depths_take_le l k
      generalize V.mk 3 0 [] l = v at *
      have E1 := Lib.hid e1
      have E2 := Lib.hid e2
      clear e1 e2 hd' hkl
      go_wp2
      go_ret2
      exact formedPost_of E1.out E2.out hb

/-- formed, of every value -/
theorem formed_any (m : Nat) : ∀ (v : V) (w : World) (c : Value), SizeOf.sizeOf v ≤ m → v.depth ≤ 1000000 → RepV w v c → Calls Try.prog 28 #[c] w (FormedPost v w) := by
  induction m with
  | zero => intro v w c hm; cases v; simp at hm
  | succ m ih =>
    intro v w c hm hd hr
    obtain ⟨k, n, s, l⟩ := v
    simp only [RepV] at hr
    obtain ⟨a, cap, rfl, hk, hn, hs, hl, hcap, hrl⟩ := hr
    by_cases h : k < 1 ∨ 3 < k
    · exact formed_no k n s l a cap w h
    · obtain rfl | rfl | rfl : k = 1 ∨ k = 2 ∨ k = 3 := by omega
      · exact formed_1 n s l a cap w
      · exact formed_2 n s l a cap w
      · by_cases hns : n = 0 ∧ s = []
        · obtain ⟨rfl, rfl⟩ := hns
          simp only [V.depth, if_true] at hd
          refine formed_3 l a cap w hrl hl hcap (by omega) fun x hx w' c' hr' => ih x w' c' ?_ ?_ hr'
          · have := List.sizeOf_lt_of_mem hx
            simp at hm; omega
          · have := V.depth_mem hx; omega
        · exact formed_3no n s l a cap w (by omega)
end Go.Proofs.Ytedkoifbjmemdaa
