/- codec: Check, Encode, Size -/
import Derived.Test.YtedkoifbjmemdaaWrite3
import Derived.Laws.EntriesVeiled
namespace Go.Proofs.Ytedkoifbjmemdaa
open Go.RowKit
attribute [local go_sem ↓] Go.wp_at_zero Go.wp_at_succ

theorem write_any (w0 : World) (p : Addr) (q : Nat) (hW : Writer w0 p q) (base : Nat) (hw0 : w0.heap.size ≤ base) (m : Nat) : ∀ (x : V), SizeOf.sizeOf x ≤ m → x.ok = true → ∀ w bs bv k n s sl, RepV w0 x (.agg #[.int .i64 k, n, s, sl]) → Below w0.heap.size w0 w → base ≤ w.heap.size → w.ownsRow base 5 1 bv bs.length (bs.map byteV) → (bs ++ x.enc).length ≤ 1000000 → Writes p base bs x k bv (.agg #[.int .i64 k, n, s, sl]) w := by
  induction m with
  | zero => intro x hm; cases x; simp at hm
  | succ m ih =>
    intro x hm hok w bs bv k n s sl hr hb hbase hown hlen
    obtain ⟨k', n', s', l'⟩ := x
    simp only [RepV] at hr
    obtain ⟨a, cap, hc, hk, hn, hs, hl, hcap, hrl⟩ := hr
    simp only [Value.agg.injEq, Array.mk.injEq, List.cons.injEq, Value.int.injEq, and_true, true_and] at hc
    obtain ⟨rfl, rfl, rfl, rfl⟩ := hc
    refine ⟨fun hk1 => ?_, fun hk2 => ?_, fun hk3 => ?_⟩
    · subst hk1
      have e : (V.mk 1 n' s' l').enc = 1 :: num (zz n') := by simp [V.enc]
      rw [e] at hlen ⊢
      exact write1_any base bs bv 1 n' s' _ w hn (by simp at hlen; omega) hbase hown
    · subst hk2
      have e : (V.mk 2 n' s' l').enc = 2 :: (num s'.length ++ s') := by simp [V.enc]
      rw [e] at hlen ⊢
      exact write2_any base bs bv 2 n' s' _ w (by simp at hlen; omega) (by simp at hlen; omega) hbase hown
    · subst hk3
      have e : (V.mk 3 n' s' l').enc = 3 :: (num l'.length ++ V.encs l') := by simp [V.enc]
      rw [e] at hlen ⊢
      have hok' : V.oks l' = true := by
        simp only [V.ok] at hok
        rw [if_neg (by decide), if_neg (by decide), if_pos trivial] at hok
        simp only [Bool.and_eq_true] at hok
        exact hok.2
      refine write3_any w0 p q hW base hw0 l' a cap hrl hok' hl hcap ?_ bs bv w n' _ hb hbase hown hlen
      intro x hx
      refine ih x ?_ ?_
      · have := List.sizeOf_lt_of_mem hx
        simp at hm; omega
      · obtain ⟨i, hi, rfl⟩ := List.mem_iff_getElem.1 hx
        exact V.oks_at l' i hi hok'

def NewWriterPost (w : World) (e : Ending) (w' : World) : Prop := ∃ p q, e = .returned (.pointer (some ⟨q, 0, none⟩)) ∧ Writer w' p q ∧ Below w.heap.size w w' ∧ q < w'.heap.size
set_option maxRecDepth 100000 in
set_option maxHeartbeats 1000000 in
theorem newWriter_any (w : World) : Calls Try.prog 26 #[] w (NewWriterPost w) := by
  have hmf : ∀ (fn : Fn) (first cap : Array Value) (w : World), (Instr.makeFunc fn first cap).run Try.prog w = .ok (.func fn first cap) w := fun _ _ _ _ => rfl
  go_enter Try.func26, Try.ntmps26
  go_wp2
  go_ret
  exact ⟨⟨w.heap.size + 1, 0, none⟩, w.heap.size, rfl, ⟨by simp, by simp, by simp, by simp⟩, ((Below.refl _ _).alloc (Nat.le_refl _) _).alloc (by simp) _, by simp; omega⟩

theorem V.chk_of {v : V} : v.chk = if v.ok then (if 16 < v.depth then 2 else 0) else 1 := rfl
set_option maxHeartbeats 1000000 in
theorem check_any (v : V) (w : World) (k n : Int) (s : ByteArray) (a : Option Addr) (len cap : Nat) (hd : v.depth ≤ 1000000) (hr : RepV w v (.agg #[.int .i64 k, .int .i64 n, .string s, .slice a len cap])) : Calls Try.prog 16 #[.agg #[.int .i64 k, .int .i64 n, .string s, .slice a len cap]] w (GivesI v.chk w) := by
  have hf := fun W hb => formed_any _ v W _ (Nat.le_refl _) hd (RepV.below (w' := W) hb hr)
  have HF := Lib.hid hf
  clear hf hr
  by_cases hok : v.ok = true
  · have e1 : v.fd = v.depth := by unfold V.fd; rw [if_pos hok]
    by_cases h16 : (16 : Int) < v.depth
    · have ez : v.chk = 2 := by rw [V.chk_of, if_pos hok, if_pos (by omega)]
      rw [ez]
      have E1 := Lib.hid e1
      clear e1 ez
      go_enter Try.func16, Try.ntmps16
      go_wp2_with fail
      refine (HF.out _ ((Below.refl _ _).alloc (Nat.le_refl _) _)).mono ?_
      rintro e w1 ⟨rfl, hb1⟩
      rw [E1.out]
      go_wp2
      go_ret
      exact givesI_of rfl (((Below.refl _ _).alloc (Nat.le_refl _) _).trans (hb1.mono (by simp)))
    · have ez : v.chk = 0 := by rw [V.chk_of, if_pos hok, if_neg (by omega)]
      rw [ez]
      have E1 := Lib.hid e1
      clear e1 ez
      go_enter Try.func16, Try.ntmps16
      go_wp2_with fail
      refine (HF.out _ ((Below.refl _ _).alloc (Nat.le_refl _) _)).mono ?_
      rintro e w1 ⟨rfl, hb1⟩
      rw [E1.out]
      go_wp2
      go_ret
      exact givesI_of rfl (((Below.refl _ _).alloc (Nat.le_refl _) _).trans (hb1.mono (by simp)))
  · have hok' : v.ok = false := by simpa using hok
    have ez : v.chk = 1 := by rw [V.chk_of, if_neg hok]
    rw [ez]
    clear hok ez
    go_enter Try.func16, Try.ntmps16
    go_wp2_with fail
    refine (HF.out _ ((Below.refl _ _).alloc (Nat.le_refl _) _)).mono ?_
    rintro e w1 ⟨rfl, hb1⟩
    go_wp2
    go_ret
    exact givesI_of rfl (((Below.refl _ _).alloc (Nat.le_refl _) _).trans (hb1.mono (by simp)))

/-- the bytes that Encode hands back -/
def V.out (v : V) : List UInt8 := if v.chk = 0 then v.enc else []
def EncPost (v : V) (w : World) (e : Ending) (w' : World) : Prop :=
  ∃ v', e = .returned (.tuple #[v', .int .i64 v.chk]) ∧ w'.ownsRow w.heap.size 5 1 v' v.out.length (v.out.map byteV) ∧ Below w.heap.size w w'
theorem RepV.form {w : World} {v : V} {c : Value} (h : RepV w v c) : ∃ k n s a len cap, c = .agg #[.int .i64 k, .int .i64 n, .string s, .slice a len cap] := by
  obtain ⟨k, n, s, l⟩ := v
  simp only [RepV] at h
  obtain ⟨a, cap, rfl, _⟩ := h
  exact ⟨_, _, _, _, _, _, rfl⟩

theorem enc_close {xs : List UInt8} {w w1 w2 w3 : World} {v3 : Value} {e : Ending} (he : e = .returned (.tuple #[v3, .int .i64 0])) (hg : Grew w2.heap.size 5 1 w2 (.slice none 0 0) v3 ([] ++ xs).length (([] ++ xs).map byteV) w3) (hb2 : Below w1.drew.heap.size w1.drew w2) (hb : Below w.heap.size w w1) :
    ∃ v', e = .returned (.tuple #[v', .int .i64 0]) ∧ w3.ownsRow w.heap.size 5 1 v' xs.length (xs.map byteV) ∧ Below w.heap.size w w3 := by
  have hs2 : w1.heap.size ≤ w2.heap.size := hb2.size
  refine ⟨v3, he, ?_, ?_⟩
  · obtain ⟨h1, h2⟩ := hg.own
    simp only [List.nil_append] at h1 h2
    refine ⟨h1, h2.imp id ?_⟩
    rintro ⟨g, cap, cur, a1, a2, a3⟩
    exact ⟨g, cap, cur, a1, Nat.le_trans hb.size (Nat.le_trans hs2 a2), a3⟩
  · exact hb.trans (((Below.refl _ w1).drew.trans (hb2.mono (by exact Nat.le_trans hb.size (Nat.le_refl _)))).trans ((hg.below (Nat.le_refl _) (fun g h => by cases h)).mono (Nat.le_trans hb.size hs2)))

set_option maxRecDepth 100000 in
set_option maxHeartbeats 3200000 in
theorem encode_any (v : V) (w : World) (c : Value) (hd : v.depth ≤ 1000000) (hlen : v.enc.length ≤ 1000000) (hr : RepV w v c) : Calls Try.prog 12 #[c] w (EncPost v w) := by
  obtain ⟨k, n, s, a, len, cap, rfl⟩ := hr.form
  have hc := fun W hb => check_any v W k n s a len cap hd (RepV.below (w' := W) hb hr)
  have HC := Lib.hid hc
  have HR := Lib.hid hr
  clear hc
  by_cases hz : v.chk = 0
  · have hok : v.ok = true := by
      cases hx : v.ok with
      | true => rfl
      | false => rw [V.chk_of, hx] at hz; simp at hz
    have hk := V.kind_of hok hr
    unfold EncPost V.out
    rw [hz, if_pos rfl]
    rw [hz] at HC
    clear hz hr
    rcases hk with rfl | rfl | rfl
    · have ihx := fun (w0 : World) (p : Addr) (q : Nat) (h1 : Writer w0 p q) (h2 : RepV w0 v (.agg #[.int .i64 1, .int .i64 n, .string s, .slice a len cap])) =>
        (write_any w0 p q h1 w0.heap.size (Nat.le_refl _) _ v (Nat.le_refl _) hok w0 [] (.slice none 0 0) 1 (.int .i64 n) (.string s) (.slice a len cap) h2 (Below.refl _ _) (Nat.le_refl _) (World.ownsRow_nil _ _ _ _) (by simpa using hlen)).w1 rfl
      have IHX := Lib.hid ihx
      clear ihx
      go_enter Try.func12, Try.ntmps12
      go_wp2_with fail
      refine (HC.out _ ((Below.refl _ _).alloc (Nat.le_refl _) _)).mono ?_
      rintro e w1 ⟨rfl, hb1⟩
      have q0 : w1.cell? ⟨w.heap.size, 0, none⟩ = some (.int .i64 1) := (hb1.cell (by simp)).trans (by go_simp)
      have q1 : w1.cell? ⟨w.heap.size, 1, none⟩ = some (.int .i64 n) := (hb1.cell (by simp)).trans (by go_simp)
      have q2 : w1.cell? ⟨w.heap.size, 2, none⟩ = some (.string s) := (hb1.cell (by simp)).trans (by go_simp)
      have q3 : w1.cell? ⟨w.heap.size, 3, none⟩ = some (.slice a len cap) := (hb1.cell (by simp)).trans (by go_simp)
      have hsz : w.heap.size < w1.heap.size := by have := hb1.size; simp at this; omega
      have hbw : Below w.heap.size w w1 := ((Below.refl _ _).alloc (Nat.le_refl _) _).trans (hb1.mono (by simp))
      go_wp2_with fail
      go_region_with (first
          | (go_at_call 26; ((with_reducible refine (newWriter_any _).mono ?_)); rintro e w2 ⟨p, q, rfl, hW, hb2, hq⟩; have gF := hW.f1; have e0 := below_cell hb2 q0; have e1 := below_cell hb2 q1; have e2 := below_cell hb2 q2; have e3 := below_cell hb2 q3)
          | (go_at_call 37; ((with_reducible refine (IHX.out _ p q hW (RepV.below hb2 (RepV.below (Below.refl _ _).drew (RepV.below hbw HR.out)))).mono ?_)); rintro e w3 ⟨v3, rfl, hg3⟩))
      all_goals
        go_wp2
        go_ret2
        exact enc_close rfl hg3 hb2 hbw
    · have ihx := fun (w0 : World) (p : Addr) (q : Nat) (h1 : Writer w0 p q) (h2 : RepV w0 v (.agg #[.int .i64 2, .int .i64 n, .string s, .slice a len cap])) =>
        (write_any w0 p q h1 w0.heap.size (Nat.le_refl _) _ v (Nat.le_refl _) hok w0 [] (.slice none 0 0) 2 (.int .i64 n) (.string s) (.slice a len cap) h2 (Below.refl _ _) (Nat.le_refl _) (World.ownsRow_nil _ _ _ _) (by simpa using hlen)).w2 rfl
      have IHX := Lib.hid ihx
      clear ihx
      go_enter Try.func12, Try.ntmps12
      go_wp2_with fail
      refine (HC.out _ ((Below.refl _ _).alloc (Nat.le_refl _) _)).mono ?_
      rintro e w1 ⟨rfl, hb1⟩
      have q0 : w1.cell? ⟨w.heap.size, 0, none⟩ = some (.int .i64 2) := (hb1.cell (by simp)).trans (by go_simp)
      have q1 : w1.cell? ⟨w.heap.size, 1, none⟩ = some (.int .i64 n) := (hb1.cell (by simp)).trans (by go_simp)
      have q2 : w1.cell? ⟨w.heap.size, 2, none⟩ = some (.string s) := (hb1.cell (by simp)).trans (by go_simp)
      have q3 : w1.cell? ⟨w.heap.size, 3, none⟩ = some (.slice a len cap) := (hb1.cell (by simp)).trans (by go_simp)
      have hsz : w.heap.size < w1.heap.size := by have := hb1.size; simp at this; omega
      have hbw : Below w.heap.size w w1 := ((Below.refl _ _).alloc (Nat.le_refl _) _).trans (hb1.mono (by simp))
      go_wp2_with fail
      go_region_with (first
          | (go_at_call 26; ((with_reducible refine (newWriter_any _).mono ?_)); rintro e w2 ⟨p, q, rfl, hW, hb2, hq⟩; have gF := hW.f2; have e0 := below_cell hb2 q0; have e1 := below_cell hb2 q1; have e2 := below_cell hb2 q2; have e3 := below_cell hb2 q3)
          | (go_at_call 40; ((with_reducible refine (IHX.out _ p q hW (RepV.below hb2 (RepV.below (Below.refl _ _).drew (RepV.below hbw HR.out)))).mono ?_)); rintro e w3 ⟨v3, rfl, hg3⟩))
      all_goals
        go_wp2
        go_ret2
        exact enc_close rfl hg3 hb2 hbw
    · have ihx := fun (w0 : World) (p : Addr) (q : Nat) (h1 : Writer w0 p q) (h2 : RepV w0 v (.agg #[.int .i64 3, .int .i64 n, .string s, .slice a len cap])) =>
        (write_any w0 p q h1 w0.heap.size (Nat.le_refl _) _ v (Nat.le_refl _) hok w0 [] (.slice none 0 0) 3 (.int .i64 n) (.string s) (.slice a len cap) h2 (Below.refl _ _) (Nat.le_refl _) (World.ownsRow_nil _ _ _ _) (by simpa using hlen)).w3 rfl
      have IHX := Lib.hid ihx
      clear ihx
      go_enter Try.func12, Try.ntmps12
      go_wp2_with fail
      refine (HC.out _ ((Below.refl _ _).alloc (Nat.le_refl _) _)).mono ?_
      rintro e w1 ⟨rfl, hb1⟩
      have q0 : w1.cell? ⟨w.heap.size, 0, none⟩ = some (.int .i64 3) := (hb1.cell (by simp)).trans (by go_simp)
      have q1 : w1.cell? ⟨w.heap.size, 1, none⟩ = some (.int .i64 n) := (hb1.cell (by simp)).trans (by go_simp)
      have q2 : w1.cell? ⟨w.heap.size, 2, none⟩ = some (.string s) := (hb1.cell (by simp)).trans (by go_simp)
      have q3 : w1.cell? ⟨w.heap.size, 3, none⟩ = some (.slice a len cap) := (hb1.cell (by simp)).trans (by go_simp)
      have hsz : w.heap.size < w1.heap.size := by have := hb1.size; simp at this; omega
      have hbw : Below w.heap.size w w1 := ((Below.refl _ _).alloc (Nat.le_refl _) _).trans (hb1.mono (by simp))
      go_wp2_with fail
      go_region_with (first
          | (go_at_call 26; ((with_reducible refine (newWriter_any _).mono ?_)); rintro e w2 ⟨p, q, rfl, hW, hb2, hq⟩; have gF := hW.f3; have e0 := below_cell hb2 q0; have e1 := below_cell hb2 q1; have e2 := below_cell hb2 q2; have e3 := below_cell hb2 q3)
          | (go_at_call 41; ((with_reducible refine (IHX.out _ p q hW (RepV.below hb2 (RepV.below (Below.refl _ _).drew (RepV.below hbw HR.out)))).mono ?_)); rintro e w3 ⟨v3, rfl, hg3⟩))
      all_goals
        go_wp2
        go_ret2
        exact enc_close rfl hg3 hb2 hbw
  · have hz' : (v.chk != 0) = true := by simpa using hz
    have e1 : v.out = [] := by unfold V.out; rw [if_neg hz]
    unfold EncPost
    rw [e1]
    clear hr hz e1
    go_enter Try.func12, Try.ntmps12
    go_wp2_with fail
    refine (HC.out _ ((Below.refl _ _).alloc (Nat.le_refl _) _)).mono ?_
    rintro e w1 ⟨rfl, hb1⟩
    go_wp2
    go_ret2
    exact ⟨_, rfl, World.ownsRow_nil _ _ _ _, ((Below.refl _ _).alloc (Nat.le_refl _) _).trans (hb1.mono (by simp))⟩
end Go.Proofs.Ytedkoifbjmemdaa
