/- frankingref01: Check, Encode, Size, Few, Int, Text, List; codec: Size; few -/
import Derived.Test.YtedkoifbjmemdaaRefEnc
import Derived.Test.YtedkoifbjmemdaaEnc
namespace Go.Proofs.Ytedkoifbjmemdaa
set_option linter.unusedSimpArgs false
set_option linter.unusedVariables false
open Go.RowKit
set_option maxHeartbeats 1000000 in
theorem rcheck_any (v : V) (w : World) (c : Value) (hd : v.depth ≤ 1000000) (hr : RepV w v c) : Calls Try.prog 17 #[c] w (GivesI v.chk w) := by
  obtain ⟨k, n, s, a, len, cap, rfl⟩ := hr.form
  have hf := fun W hb => rformed_any _ v W _ (Nat.le_refl _) (RepV.below (w' := W) hb hr)
  have hd' := fun W hb => rdepth_any _ v W _ (Nat.le_refl _) hd (RepV.below (w' := W) hb hr)
  have HF := Lib.hid hf
  have HD := Lib.hid hd'
  clear hf hd' hr
  by_cases hok : v.ok = true
  · rw [hok] at HF
    by_cases h16 : (16 : Int) < v.depth
    · have ez : v.chk = 2 := by rw [V.chk_of, if_pos hok, if_pos (by omega)]
      rw [ez]
      clear ez
      go_enter Try.func17, Try.ntmps17
      go_wp2_with fail
      refine (HF.out _ ((Below.refl _ _).alloc (Nat.le_refl _) _)).mono ?_
      rintro e w1 ⟨rfl, hb1⟩
      have q0 : w1.cell? ⟨w.heap.size, 0, none⟩ = some (.int .i64 k) := (hb1.cell (by simp)).trans (by go_simp)
      have q1 : w1.cell? ⟨w.heap.size, 1, none⟩ = some (.int .i64 n) := (hb1.cell (by simp)).trans (by go_simp)
      have q2 : w1.cell? ⟨w.heap.size, 2, none⟩ = some (.string s) := (hb1.cell (by simp)).trans (by go_simp)
      have q3 : w1.cell? ⟨w.heap.size, 3, none⟩ = some (.slice a len cap) := (hb1.cell (by simp)).trans (by go_simp)
      have hb2 : Below w.heap.size w w1 := ((Below.refl _ _).alloc (Nat.le_refl _) _).trans (hb1.mono (by simp))
      go_wp2_with fail
      refine (HD.out _ hb2).mono ?_
      rintro e w3 ⟨rfl, hb3⟩
      go_wp2
      go_ret
      exact givesI_of rfl (hb2.trans (hb3.mono hb2.size))
    · have ez : v.chk = 0 := by rw [V.chk_of, if_pos hok, if_neg (by omega)]
      rw [ez]
      clear ez
      go_enter Try.func17, Try.ntmps17
      go_wp2_with fail
      refine (HF.out _ ((Below.refl _ _).alloc (Nat.le_refl _) _)).mono ?_
      rintro e w1 ⟨rfl, hb1⟩
      have q0 : w1.cell? ⟨w.heap.size, 0, none⟩ = some (.int .i64 k) := (hb1.cell (by simp)).trans (by go_simp)
      have q1 : w1.cell? ⟨w.heap.size, 1, none⟩ = some (.int .i64 n) := (hb1.cell (by simp)).trans (by go_simp)
      have q2 : w1.cell? ⟨w.heap.size, 2, none⟩ = some (.string s) := (hb1.cell (by simp)).trans (by go_simp)
      have q3 : w1.cell? ⟨w.heap.size, 3, none⟩ = some (.slice a len cap) := (hb1.cell (by simp)).trans (by go_simp)
      have hb2 : Below w.heap.size w w1 := ((Below.refl _ _).alloc (Nat.le_refl _) _).trans (hb1.mono (by simp))
      go_wp2_with fail
      refine (HD.out _ hb2).mono ?_
      rintro e w3 ⟨rfl, hb3⟩
      go_wp2
      go_ret
      exact givesI_of rfl (hb2.trans (hb3.mono hb2.size))
  · have hok' : v.ok = false := by simpa using hok
    have ez : v.chk = 1 := by rw [V.chk_of, if_neg hok]
    rw [ez]
    rw [hok'] at HF
    clear hok ez hok'
    go_enter Try.func17, Try.ntmps17
    go_wp2_with fail
    refine (HF.out _ ((Below.refl _ _).alloc (Nat.le_refl _) _)).mono ?_
    rintro e w1 ⟨rfl, hb1⟩
    go_wp2
    go_ret
    exact givesI_of rfl (((Below.refl _ _).alloc (Nat.le_refl _) _).trans (hb1.mono (by simp)))

set_option maxHeartbeats 1000000 in
theorem rencodeE_any (v : V) (w : World) (c : Value) (hd : v.depth ≤ 1000000) (hlen : v.enc.length ≤ 1000000) (hr : RepV w v c) : Calls Try.prog 13 #[c] w (EncPost v w) := by
  obtain ⟨k, n, s, a, len, cap, rfl⟩ := hr.form
  have hc := fun W hb => rcheck_any v W _ hd (RepV.below (w' := W) hb hr)
  have he := fun W hb => rencode_any _ v W _ (Nat.le_refl _) hlen (RepV.below (w' := W) hb hr)
  have HC := Lib.hid hc
  have HE := Lib.hid he
  clear hc he hr
  by_cases hz : v.chk = 0
  · unfold EncPost V.out
    rw [hz, if_pos rfl]
    rw [hz] at HC
    clear hz
    go_enter Try.func13, Try.ntmps13
    go_wp2_with fail
    refine (HC.out _ ((Below.refl _ _).alloc (Nat.le_refl _) _)).mono ?_
    rintro e w1 ⟨rfl, hb1⟩
    have q0 : w1.cell? ⟨w.heap.size, 0, none⟩ = some (.int .i64 k) := (hb1.cell (by simp)).trans (by go_simp)
    have q1 : w1.cell? ⟨w.heap.size, 1, none⟩ = some (.int .i64 n) := (hb1.cell (by simp)).trans (by go_simp)
    have q2 : w1.cell? ⟨w.heap.size, 2, none⟩ = some (.string s) := (hb1.cell (by simp)).trans (by go_simp)
    have q3 : w1.cell? ⟨w.heap.size, 3, none⟩ = some (.slice a len cap) := (hb1.cell (by simp)).trans (by go_simp)
    have hb2 : Below w.heap.size w w1 := ((Below.refl _ _).alloc (Nat.le_refl _) _).trans (hb1.mono (by simp))
    go_wp2_with fail
    refine (HE.out _ hb2).mono ?_
    rintro e w3 ⟨v3, rfl, hown3, hb3⟩
    go_wp2
    go_ret2
    exact ⟨v3, rfl, ownsRow_weak hown3 hb2.size, hb2.trans (hb3.mono hb2.size)⟩
  · have hz' : (v.chk != 0) = true := by simpa using hz
    have e1 : v.out = [] := by unfold V.out; rw [if_neg hz]
    unfold EncPost
    rw [e1]
    clear hz e1
    go_enter Try.func13, Try.ntmps13
    go_wp2_with fail
    refine (HC.out _ ((Below.refl _ _).alloc (Nat.le_refl _) _)).mono ?_
    rintro e w1 ⟨rfl, hb1⟩
    go_wp2
    go_ret2
    exact ⟨_, rfl, World.ownsRow_nil _ _ _ _, ((Below.refl _ _).alloc (Nat.le_refl _) _).trans (hb1.mono (by simp))⟩

def SizePost (v : V) (w : World) (e : Ending) (w' : World) : Prop := e = .returned (.tuple #[.int .i64 v.out.length, .int .i64 v.chk]) ∧ Below w.heap.size w w'
theorem own_form {w : World} {base : Nat} {e : TypeId} {size : Nat} {v : Value} {n : Nat} {xs : List Value} (h : w.ownsRow base e size v n xs) : ∃ a cap, v = .slice a n cap := by
  rcases h.2 with ⟨rfl, rfl⟩ | ⟨g, cap, cur, rfl, _⟩
  · exact ⟨_, _, rfl⟩
  · exact ⟨_, _, rfl⟩
set_option maxHeartbeats 1000000 in
theorem size_any (v : V) (w : World) (c : Value) (hd : v.depth ≤ 1000000) (hlen : v.enc.length ≤ 1000000) (hr : RepV w v c) : Calls Try.prog 14 #[c] w (SizePost v w) := by
  obtain ⟨k, n, s, a, len, cap, rfl⟩ := hr.form
  have he := fun W hb => encode_any v W _ hd hlen (RepV.below (w' := W) hb hr)
  have HE := Lib.hid he
  clear he hr
  unfold SizePost
  generalize hout : v.out = xs at *
  generalize hchk : v.chk = z at *
  have H1 := Lib.hid hout
  have H2 := Lib.hid hchk
  clear hout hchk
  go_enter Try.func14, Try.ntmps14
  go_wp2_with fail
  refine (HE.out _ ((Below.refl _ _).alloc (Nat.le_refl _) _)).mono ?_
  rintro e w1 ⟨v1, rfl, hown1, hb1⟩
  rw [H1.out] at hown1
  rw [H2.out]
  obtain ⟨a1, cap1, rfl⟩ := own_form hown1
  clear hown1
  go_wp2
  go_ret2
  exact ⟨rfl, ((Below.refl _ _).alloc (Nat.le_refl _) _).trans (hb1.mono (by simp))⟩
set_option maxHeartbeats 1000000 in
theorem rsize_any (v : V) (w : World) (c : Value) (hd : v.depth ≤ 1000000) (hlen : v.enc.length ≤ 1000000) (hr : RepV w v c) : Calls Try.prog 15 #[c] w (SizePost v w) := by
  obtain ⟨k, n, s, a, len, cap, rfl⟩ := hr.form
  have he := fun W hb => rencodeE_any v W _ hd hlen (RepV.below (w' := W) hb hr)
  have HE := Lib.hid he
  clear he hr
  unfold SizePost
  generalize hout : v.out = xs at *
  generalize hchk : v.chk = z at *
  have H1 := Lib.hid hout
  have H2 := Lib.hid hchk
  clear hout hchk
  go_enter Try.func15, Try.ntmps15
  go_wp2_with fail
  refine (HE.out _ ((Below.refl _ _).alloc (Nat.le_refl _) _)).mono ?_
  rintro e w1 ⟨v1, rfl, hown1, hb1⟩
  rw [H1.out] at hown1
  rw [H2.out]
  obtain ⟨a1, cap1, rfl⟩ := own_form hown1
  clear hown1
  go_wp2
  go_ret2
  exact ⟨rfl, ((Below.refl _ _).alloc (Nat.le_refl _) _).trans (hb1.mono (by simp))⟩

set_option maxHeartbeats 1000000 in
theorem few1_any (v : V) (w : World) (c : Value) (hr : RepV w v c) : Calls Try.prog 25 #[c, .int .i64 20] w (Gives (.bool (decide (v.cnt 20 ≤ 200))) w) := by
  obtain ⟨k, n, s, a, len, cap, rfl⟩ := hr.form
  have he := fun W hb => count_any _ v 20 W _ (Nat.le_refl _) (by omega) (by omega) (RepV.below (w' := W) hb hr)
  have HE := Lib.hid he
  clear he hr
  generalize v.cnt 20 = z at *
  unfold Gives
  go_enter Try.func25, Try.ntmps25
  go_wp2_with fail
  refine (HE.out _ ((Below.refl _ _).alloc (Nat.le_refl _) _)).mono ?_
  rintro e w1 ⟨rfl, hb1⟩
  go_wp2
  go_ret
  exact ⟨rfl, ((Below.refl _ _).alloc (Nat.le_refl _) _).trans (hb1.mono (by simp))⟩

/-- values that are small -/
def fewB (l : List V) : Bool := l.all fun v => decide (v.cnt 20 ≤ 200)
theorem fewB_take (l : List V) (k : Nat) (h : k < l.length) : fewB (l.take (k + 1)) = (fewB (l.take k) && decide (l[k].cnt 20 ≤ 200)) := by
  unfold fewB
  rw [List.take_succ_eq_append_getElem h, List.all_append]
  simp
theorem fewB_false (l : List V) (k : Nat) (h : k < l.length) (hk : ¬ l[k].cnt 20 ≤ 200) : fewB l = false := by
  unfold fewB
  rw [List.all_eq_false]
  exact ⟨l[k], List.getElem_mem _, by simpa using hk⟩
set_option maxHeartbeats 1000000 in
theorem few_any (l : List V) (a : Option Addr) (cap : Nat) (w : World) (hr : RepL w l a) (hl : l.length ≤ cap) (hc : l.length ≤ 140737488351232) : Calls Try.prog 11 #[.slice a l.length cap] w (Gives (.bool (fewB l)) w) := by
  have HR := Lib.hid hr
  clear hr
  unfold Gives
  obtain ⟨z, hz⟩ : ∃ z, fewB l = z := ⟨_, rfl⟩
  rw [hz]
  have HZ := Lib.hid hz
  clear hz
  go_enter Try.func11, Try.ntmps11
  go_wp2
  go_loopw [7] (fun i wr => ∃ k : Nat, k ≤ l.length ∧ i = .int .i64 k ∧ Hid (fewB (l.take k) = true) ∧ Below w.heap.size w wr) (fun i _ => l.length - (intOf i).toNat)
  case atStart => exact ⟨0, Nat.zero_le _, rfl, by simp [fewB, Hid], Below.refl _ _⟩
  case round =>
    obtain ⟨k, hk, rfl, hf, hb⟩ := hrel
    by_cases hlt : k < l.length
    · obtain ⟨b, off, k0, n0, s0, a', len', cap', rfl, g0, g1, g2, g3, hv⟩ := (RepL.below hb HR.out).at k hlt
      have HV := Lib.hid hv
      clear hv
      have hbx : Below w.heap.size w (wr.alloc (.cells #[.int .i64 k0, .int .i64 n0, .string s0, .slice a' len' cap'] 24)) := hb.alloc hb.size _
      by_cases hc : l[k].cnt 20 ≤ 200
      · have hce : decide (l[k].cnt 20 ≤ 200) = true := by simpa using hc
        have HC : Hid (∀ W, Below wr.heap.size wr W → Calls Try.prog 25 #[.agg #[.int .i64 k0, .int .i64 n0, .string s0, .slice a' len' cap'], .int .i64 20] W (Gives (.bool true) W)) := fun W h => by rw [← hce]; exact few1_any l[k] W _ (RepV.below h HV.out)
        have HCE := Lib.hid hce
        clear hc hce
        go_wp2_with fail
        refine (HC.out _ ((Below.refl _ _).alloc (Nat.le_refl _) _)).mono ?_
        rintro e w1 ⟨rfl, hb1⟩
        go_wp2
        go_roundw
        case rel =>
          exact ⟨k + 1, by omega, by go_num, by unfold Hid; rw [fewB_take l k hlt, hf.out, HCE.out]; rfl, hbx.trans (hb1.mono hbx.size)⟩
        case measure => simp [intOf]; omega
      · have hce : decide (l[k].cnt 20 ≤ 200) = false := by simpa using hc
        have HC : Hid (∀ W, Below wr.heap.size wr W → Calls Try.prog 25 #[.agg #[.int .i64 k0, .int .i64 n0, .string s0, .slice a' len' cap'], .int .i64 20] W (Gives (.bool false) W)) := fun W h => by rw [← hce]; exact few1_any l[k] W _ (RepV.below h HV.out)
        have HCE := Lib.hid hc
        clear hc hce
        go_wp2_with fail
        refine (HC.out _ ((Below.refl _ _).alloc (Nat.le_refl _) _)).mono ?_
        rintro e w1 ⟨rfl, hb1⟩
        go_wp2
        go_ret
        exact ⟨ret_bool (by rw [← HZ.out, fewB_false l k hlt (by have := HCE.out; omega)]), hbx.trans (hb1.mono hbx.size)⟩
    · go_wp2
      go_ret
      exact ⟨ret_bool (by rw [← HZ.out, ← hf.out, List.take_of_length_le (by omega)]), hb⟩
end Go.Proofs.Ytedkoifbjmemdaa
