/- frankingref01: count, Few; Check -/
import Derived.Test.YtedkoifbjmemdaaRef1
import Derived.Test.YtedkoifbjmemdaaRef2
namespace Go.Proofs.Ytedkoifbjmemdaa
set_option linter.unusedSimpArgs false
set_option linter.unusedVariables false
open Go.RowKit
mutual
theorem RepV.texts {w : World} : ∀ {v : V} {c : Value}, RepV w v c → v.texts 140737488351232
  | .mk k n s l, c, h => by
    simp only [RepV] at h
    obtain ⟨a, cap, h1, h2, h3, h4, h5, h6, h7⟩ := h
    exact ⟨h4, RepL.textss h7⟩
theorem RepL.textss {w : World} : ∀ {l : List V} {a : Option Addr}, RepL w l a → V.textss 140737488351232 l
  | [], _, _ => trivial
  | v :: l, a, h => by
    simp only [RepL] at h
    obtain ⟨b, off, c0, c1, c2, c3, e, h0, h1, h2, h3, hv, hl⟩ := h
    exact ⟨RepV.texts hv, RepL.textss hl⟩
end
theorem textss_at {B : Nat} : ∀ {l : List V} (i : Nat) (h : i < l.length), V.textss B l → (l[i]).texts B
  | [], i, h, _ => by simp at h
  | v :: l, i, h, ht => by
    simp only [V.textss] at ht
    cases i with
    | zero => exact ht.1
    | succ i => exact textss_at i (by simpa using h) ht.2
theorem cnts_step (l : List V) (k : Nat) (hk : k < l.length) (d n : Int) (h : n ≤ 1000) : V.cnts (l.drop k) d n = V.cnts (l.drop (k + 1)) d (n + l[k].cnt (d - 1)) := by
  rw [List.drop_eq_getElem_cons hk]; simp only [V.cnts]; rw [if_pos h]
theorem cnts_stop (l : List V) (d n : Int) (h : ¬ n ≤ 1000) : V.cnts l d n = n := by
  cases l with
  | nil => rfl
  | cons x l => simp only [V.cnts]; rw [if_neg h]

set_option maxHeartbeats 1000000 in
theorem count_no (k n : Int) (s : List UInt8) (l : List V) (a : Option Addr) (cap : Nat) (d : Int) (w : World) (hs : s.length ≤ 140737488351232) (hl : l.length ≤ cap) (hc : l.length ≤ 140737488351232) (hd : -1 ≤ d) (hd2 : d ≤ 1000) (hn : d < 0 ∨ 150 < l.length) :
    Calls Try.prog 36 #[.agg #[.int .i64 k, .int .i64 n, .string ⟨s.toArray⟩, .slice a l.length cap], .int .i64 d] w (GivesI ((V.mk k n s l).cnt d) w) := by
  have h0 : (V.mk k n s l).cnt d = 1000 := by simp only [V.cnt]; rw [if_pos hn]
  rw [h0]
  clear h0
  by_cases hd0 : d < 0
  · go_enter Try.func36, Try.ntmps36
    go_wp2
    go_ret
    exact givesI_of rfl ((Below.refl _ _).alloc (Nat.le_refl _) _)
  · have hl1 : 150 < l.length := by omega
    go_enter Try.func36, Try.ntmps36
    go_wp2
    go_ret
    exact givesI_of rfl ((Below.refl _ _).alloc (Nat.le_refl _) _)

set_option maxHeartbeats 1000000 in
theorem count_yes (k n : Int) (s : List UInt8) (l : List V) (a : Option Addr) (cap : Nat) (d : Int) (w : World) (hs : s.length ≤ 140737488351232) (hr : RepL w l a) (hl : l.length ≤ cap) (hc : l.length ≤ 140737488351232) (hd : 0 ≤ d) (hd2 : d ≤ 1000) (hn : l.length ≤ 150)
    (ih : ∀ v, v ∈ l → ∀ w c, RepV w v c → Calls Try.prog 36 #[c, .int .i64 (d - 1)] w (GivesI (v.cnt (d - 1)) w)) :
    Calls Try.prog 36 #[.agg #[.int .i64 k, .int .i64 n, .string ⟨s.toArray⟩, .slice a l.length cap], .int .i64 d] w (GivesI ((V.mk k n s l).cnt d) w) := by
  have HR := Lib.hid hr
  have IH := Lib.hid ih
  have HT := Lib.hid (RepL.textss hr)
  clear hr ih
  have h0 : (V.mk k n s l).cnt d = V.cnts l d (1 + (s.length : Int) / 200) := by simp only [V.cnt]; rw [if_neg (by omega)]
  rw [h0]
  clear h0
  obtain ⟨z, hz⟩ : ∃ z, V.cnts l d (1 + (s.length : Int) / 200) = z := ⟨_, rfl⟩
  rw [hz]
  have HZ := Lib.hid hz
  clear hz
  go_enter Try.func36, Try.ntmps36
  go_wp2
  go_loopw [5, 6] (fun m i wr => ∃ (j : Nat) (x : Int), j ≤ l.length ∧ i = .int .i64 j ∧ m = .int .i64 x ∧ 1 ≤ x ∧ x ≤ 703687441757 + 1001000 ∧ Hid (V.cnts (l.drop j) d x = z) ∧ Below (w.heap.size + 1) (w.alloc (.cells #[.int .i64 k, .int .i64 n, .string ⟨s.toArray⟩, .slice a l.length cap] 24)) wr) (fun _ i _ => l.length - (intOf i).toNat)
  case atStart => exact ⟨0, _, Nat.zero_le _, rfl, rfl, by omega, by omega, by simpa [Hid] using HZ.out, Below.refl _ _⟩
  case round =>
    obtain ⟨j, x, hj, rfl, rfl, hx1, hx2, hzz, hb⟩ := hrel
    have q3 : wr.cell? ⟨w.heap.size, 3, none⟩ = some (.slice a l.length cap) := (hb.cell (by simp)).trans (by go_simp)
    have hb0 : Below w.heap.size w wr := ((Below.refl _ _).alloc (Nat.le_refl _) _).trans (hb.mono (by omega))
    by_cases hlt : j < l.length
    · by_cases hx : x ≤ 1000
      · obtain ⟨b, off, k0, n0, s0, a', len', cap', rfl, g0, g1, g2, g3, hv⟩ := (RepL.below hb0 HR.out).at j hlt
        have HV := Lib.hid hv
        clear hv
        have hst := cnts_step l j hlt d x hx
        rw [hzz.out] at hst
        have hcb := V.cnt_bd l[j] (d - 1) (textss_at j hlt HT.out)
        have hc1 := hcb.1
        have hc2 : l[j].cnt (d - 1) ≤ 703687441757 + 1000000 := by omega
        have HST := Lib.hid hst
        clear hst hzz hcb
        go_wp2_with fail
        refine (IH.out l[j] (List.getElem_mem _) _ _ HV.out).mono ?_
        rintro e w1 ⟨rfl, hb1⟩
        have hbb := hb.trans (hb1.mono (by have := hb.size; simpa using this))
        go_wp2
        go_roundw
        case rel =>
          exact ⟨j + 1, _, by omega, by go_num, rfl, by omega, by omega, HST.out.symm, hbb⟩
        case measure => simp [intOf]; omega
      · go_wp2
        go_ret
        exact givesI_of (by rw [← hzz.out, cnts_stop _ _ _ (by omega)]) hb0
    · have hdn : decide (j < l.length) = false := by simpa using hlt
      go_wp2
      go_ret
      exact givesI_of (by rw [← hzz.out, List.drop_eq_nil_of_le (by omega)]; rfl) hb0

theorem count_any (m : Nat) : ∀ (v : V) (d : Int) (w : World) (c : Value), SizeOf.sizeOf v ≤ m → -1 ≤ d → d ≤ 1000 → RepV w v c → Calls Try.prog 36 #[c, .int .i64 d] w (GivesI (v.cnt d) w) := by
  induction m with
  | zero => intro v d w c hm; cases v; simp at hm
  | succ m ih =>
    intro v d w c hm hd1 hd2 hr
    obtain ⟨k, n, s, l⟩ := v
    simp only [RepV] at hr
    obtain ⟨a, cap, rfl, hk, hn, hs, hl, hcap, hrl⟩ := hr
    by_cases h : d < 0 ∨ 150 < l.length
    · exact count_no k n s l a cap d w hs hl hcap hd1 hd2 h
    · refine count_yes k n s l a cap d w hs hrl hl hcap (by omega) hd2 (by omega) fun x hx w' c' hr' => ih x (d - 1) w' c' ?_ (by omega) (by omega) hr'
      have := List.sizeOf_lt_of_mem hx
      simp at hm; omega
end Go.Proofs.Ytedkoifbjmemdaa
