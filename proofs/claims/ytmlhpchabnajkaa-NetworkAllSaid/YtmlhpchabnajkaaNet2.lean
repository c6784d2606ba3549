/- network: searches, comparisons -/
import Derived.Test.YtmlhpchabnajkaaNet1
namespace Go.Proofs.Ytmlhpchabnajkaa
set_option linter.unusedSimpArgs false
set_option linter.unusedVariables false
open Go.RowKit
/-- an index, or -1: whether there is one -/
def IdxPost (b : Bool) (w : World) (e : Ending) (w' : World) : Prop := ∃ n : Int, e = .returned (.int .i64 n) ∧ decide (0 ≤ n) = b ∧ Below w.heap.size w w'
theorem all_take_succ {α : Type} (p : α → Bool) (l : List α) (k : Nat) (h : k < l.length) : (l.take (k + 1)).all p = ((l.take k).all p && p l[k]) := by
  rw [List.take_succ_eq_append_getElem h, List.all_append]; simp
theorem all_false_of {α : Type} (p : α → Bool) (l : List α) (k : Nat) (h : k < l.length) (hp : p l[k] = false) : l.all p = false := by
  rw [List.all_eq_false]; exact ⟨l[k], List.getElem_mem _, by simp [hp]⟩
theorem any_take_succ {α : Type} (p : α → Bool) (l : List α) (k : Nat) (h : k < l.length) : (l.take (k + 1)).any p = ((l.take k).any p || p l[k]) := by
  rw [List.take_succ_eq_append_getElem h, List.any_append]; simp
theorem any_true_of {α : Type} (p : α → Bool) (l : List α) (k : Nat) (h : k < l.length) (hp : p l[k] = true) : l.any p = true := by
  rw [List.any_eq_true]; exact ⟨l[k], List.getElem_mem _, hp⟩
set_option maxHeartbeats 1000000 in
theorem indexPk_any (l : List Pkt) (a : Option Addr) (cap : Nat) (w : World) (hr : Row 3 RPk w l a) (hl : l.length ≤ 140737488351232) :
    Calls Try.prog 43 #[.slice a l.length cap, .func (.func 31) #[] #[]] w (IdxPost (l.any fun p => !pktB p) w) := by
  have HR := Lib.hid hr
  clear hr
  obtain ⟨z, hz⟩ : ∃ z, (l.any fun p => !pktB p) = z := ⟨_, rfl⟩
  rw [hz]
  have HZ := Lib.hid hz
  clear hz
  go_enter Try.func43, Try.ntmps43
  go_wp2
  go_loopw [8] (fun i wr => ∃ k : Nat, k ≤ l.length ∧ i = .int .i64 k ∧ Hid ((l.take k).any (fun p => !pktB p) = false) ∧ Below w.heap.size w wr) (fun i _ => l.length - (intOf i).toNat)
  case atStart => exact ⟨0, Nat.zero_le _, rfl, by simp [Hid], Below.refl _ _⟩
  case round =>
    obtain ⟨k, hk, rfl, hf, hb⟩ := hrel
    by_cases hlt : k < l.length
    · obtain ⟨b, off, da, dc, rfl, g0, g1, g2, hp⟩ := RPk.at (HR.out.below good_pk hb) k hlt
      have hlen : l[k].data.length ≤ 140737488351232 := by obtain ⟨_, _, _, _, _, _, h, _⟩ := hp; exact h
      have HC := Lib.hid (fun W => check1_any l[k] da dc W hlen)
      have HT := Lib.hid (any_take_succ (fun p => !pktB p) l k hlt)
      have HTR := Lib.hid (any_true_of (fun p => !pktB p) l k hlt)
      have HB := Lib.hid hb
      clear hp hb
      generalize pktB l[k] = pb at *
      go_wp2_with fail
      refine (HC.out _).mono ?_
      rintro e w1 ⟨rfl, hb1⟩
      have HB1 := Lib.hid (HB.out.trans (hb1.mono HB.out.size))
      clear hb1
      cases pb
      · go_wp2
        go_ret
        exact ⟨_, rfl, by rw [← HZ.out, HTR.out rfl]; simp, HB1.out⟩
      · go_wp2
        go_roundw
        case rel => exact ⟨k + 1, by omega, by go_num, by unfold Hid; rw [HT.out, hf.out]; rfl, HB1.out⟩
        case measure => simp [intOf]; omega
    · have HB := Lib.hid hb
      clear hb
      go_wp2
      go_ret
      exact ⟨_, rfl, by rw [← HZ.out]; have h := hf.out; rw [List.take_of_length_le (by omega)] at h; rw [h]; rfl, HB.out⟩
theorem containsPk_any (l : List Pkt) (a : Option Addr) (cap : Nat) (w : World) (hr : Row 3 RPk w l a) (hl : l.length ≤ 140737488351232) :
    Calls Try.prog 30 #[.slice a l.length cap, .func (.func 31) #[] #[]] w (Gives (.bool (!l.all pktB)) w) := by
  have HR := Lib.hid hr
  clear hr
  have HN : Hid ((l.any fun p => !pktB p) = !l.all pktB) := by unfold Hid; rw [Bool.eq_iff_iff]; simp
  unfold Gives
  go_enter Try.func30, Try.ntmps30
  go_wp2_with fail
  refine (indexPk_any l a cap w HR.out hl).mono ?_
  rintro e w1 ⟨n, rfl, hn, hb1⟩
  have HB := Lib.hid hb1
  have HNN := Lib.hid hn
  clear hb1 hn
  go_wp2
  go_ret
  exact ⟨ret_bool (by rw [HNN.out, HN.out]), HB.out⟩
theorem contains_take {α : Type} [BEq α] [LawfulBEq α] (l : List α) (x : α) (k : Nat) (h : k < l.length) : (l.take (k + 1)).contains x = ((l.take k).contains x || x == l[k]) := by
  rw [List.take_succ_eq_append_getElem h, Bool.eq_iff_iff]
  simp only [List.contains_iff_mem, List.mem_append, List.mem_singleton, Bool.or_eq_true, beq_iff_eq]
set_option maxHeartbeats 1000000 in
theorem indexPr_any (l : List (Int × Int)) (a : Option Addr) (cap : Nat) (x : Int × Int) (w : World) (hr : Row 2 RPr w l a) (hl : l.length ≤ 140737488351232) :
    Calls Try.prog 45 #[.slice a l.length cap, .agg #[.int .i64 x.1, .int .i64 x.2]] w (IdxPost (l.contains x) w) := by
  have HR := Lib.hid hr
  clear hr
  obtain ⟨z, hz⟩ : ∃ z, l.contains x = z := ⟨_, rfl⟩
  rw [hz]
  have HZ := Lib.hid hz
  clear hz
  go_enter Try.func45, Try.ntmps45
  go_wp2
  go_loopw [8] (fun i wr => ∃ k : Nat, k ≤ l.length ∧ i = .int .i64 k ∧ Hid ((l.take k).contains x = false) ∧ Hid (Below (w.heap.size + 1) (w.alloc (.cells #[.int .i64 x.1, .int .i64 x.2] 55)) wr)) (fun i _ => l.length - (intOf i).toNat)
  case atStart => exact ⟨0, Nat.zero_le _, rfl, by simp [Hid], Below.refl _ _⟩
  case round =>
    obtain ⟨k, hk, rfl, hf, HB⟩ := hrel
    have hbw : Below w.heap.size w wr := (below_new w _).trans (HB.out.mono (by omega))
    have HBW := Lib.hid hbw
    have x0 : wr.cell? ⟨w.heap.size, 0, none⟩ = some (.int .i64 x.1) := (HB.out.cell (by simp)).trans (by go_simp)
    have x1 : wr.cell? ⟨w.heap.size, 1, none⟩ = some (.int .i64 x.2) := (HB.out.cell (by simp)).trans (by go_simp)
    by_cases hlt : k < l.length
    · obtain ⟨b, off, rfl, g0, g1, _, _⟩ := RPr.at (HR.out.below good_pr hbw) k hlt
      have HT := Lib.hid (contains_take l x k hlt)
      have HI : Hid (x = l[k] → l.contains x = true) := fun h => by rw [h]; simp [List.contains_iff_mem]
      have hi1 : (k : Int) < (l.length : Int) := by omega
      clear hbw
      have HX : Hid ((x == l[k]) = (x.1 == l[k].1 && x.2 == l[k].2)) := rfl
      have HY : Hid (x.1 = l[k].1 → x.2 = l[k].2 → x = l[k]) := fun h1 h2 => Prod.ext h1 h2
      have eq1 := fun a b a' b' W => eql_pair a b a' b' W
      generalize l[k] = y at *
      obtain ⟨q, hq⟩ : ∃ q, (x.1 == y.1 && x.2 == y.2) = q := ⟨_, rfl⟩
      rw [hq] at HX
      have eq2 := fun W => (eq1 x.1 x.2 y.1 y.2 W).trans (by rw [hq])
      have HQ := Lib.hid hq
      clear eq1 hq
      go_wp2_with fail
      go_quiet (fail)
      have HBW' := Lib.hid (below_drewN HBW.out nq)
      have HB' := Lib.hid (below_drewN HB.out nq)
      cases q
      · go_wp2
        go_roundw
        case rel => exact ⟨k + 1, by omega, by go_num, by unfold Hid; rw [HT.out, hf.out, HX.out]; rfl, HB'⟩
        case measure => simp [intOf]; omega
      · go_wp2
        go_ret
        exact ⟨_, rfl, by rw [← HZ.out, HI.out (by have := HQ.out; simp at this; exact HY.out this.1 this.2)]; simp, HBW'.out⟩
    · go_wp2
      go_ret
      exact ⟨_, rfl, by rw [← HZ.out]; have h := hf.out; rw [List.take_of_length_le (by omega)] at h; rw [h]; rfl, HBW.out⟩
theorem containsPr_any (l : List (Int × Int)) (a : Option Addr) (cap : Nat) (x : Int × Int) (w : World) (hr : Row 2 RPr w l a) (hl : l.length ≤ 140737488351232) :
    Calls Try.prog 36 #[.slice a l.length cap, .agg #[.int .i64 x.1, .int .i64 x.2]] w (Gives (.bool (l.contains x)) w) := by
  have HR := Lib.hid hr
  clear hr
  unfold Gives
  go_enter Try.func36, Try.ntmps36
  go_wp2_with fail
  refine (indexPr_any l a cap x _ (HR.out.below good_pr (below_new _ _)) hl).mono ?_
  rintro e w1 ⟨n, rfl, hn, hb1⟩
  have HB := Lib.hid ((below_new w _).trans (hb1.mono (by simp)))
  have HNN := Lib.hid hn
  clear hb1 hn
  go_wp2
  go_ret
  exact ⟨ret_bool HNN.out, HB.out⟩
/-- slices.Compare at two pairs -/
def cmpP (p q : Int × Int) : Int := if p.1 = q.1 then cmpI p.2 q.2 else cmpI p.1 q.1
theorem cmpP_lt (p q : Int × Int) : decide (0 ≤ cmpP p q) = !ltP p q := by
  rw [Bool.eq_iff_iff]
  unfold cmpP cmpI ltP
  simp only [decide_eq_true_eq, Bool.not_eq_true', Bool.or_eq_false_iff, Bool.and_eq_false_iff, decide_eq_false_iff_not]
  (repeat' split) <;> omega
set_option maxHeartbeats 1000000 in
theorem comparePr_any (p q : Int × Int) (b off b' off' cap cap' : Nat) (w : World) (h0 : w.cell? ⟨b, off, none⟩ = some (.int .i64 p.1)) (h1 : w.cell? ⟨b, off + 1, none⟩ = some (.int .i64 p.2)) (h0' : w.cell? ⟨b', off', none⟩ = some (.int .i64 q.1)) (h1' : w.cell? ⟨b', off' + 1, none⟩ = some (.int .i64 q.2)) :
    Calls Try.prog 33 #[.slice (some ⟨b, off, none⟩) 2 cap, .slice (some ⟨b', off', none⟩) 2 cap'] w (Gives (.int .i64 (cmpP p q)) w) := by
  unfold Gives
  have HC : Hid (∀ W x y, Calls Try.prog 44 #[.int .i64 x, .int .i64 y] W (Gives (.int .i64 (cmpI x y)) W)) := fun W x y => cmpInt_any x y W
  obtain ⟨c1, hc1⟩ : ∃ c, cmpI p.1 q.1 = c := ⟨_, rfl⟩
  obtain ⟨c2, hc2⟩ : ∃ c, cmpI p.2 q.2 = c := ⟨_, rfl⟩
  have HP : Hid (cmpP p q = if c1 = 0 then c2 else c1) := by
    unfold Hid cmpP
    rw [hc2, hc1]
    have : p.1 = q.1 ↔ c1 = 0 := by rw [← hc1]; unfold cmpI; split <;> (try split) <;> omega
    by_cases hpq : p.1 = q.1
    · rw [if_pos hpq, if_pos (this.1 hpq)]
    · rw [if_neg hpq, if_neg (fun h => hpq (this.2 h))]
  have H1 := Lib.hid hc1
  have H2 := Lib.hid hc2
  clear hc1 hc2
  go_enter Try.func33, Try.ntmps33
  go_wp2
  refine wp_loop_rounds 3 ?_
  rw [rounds_succ]
  go_wp2_with fail
  refine (HC.out _ _ _).mono ?_
  rw [H1.out]
  rintro e w1 ⟨rfl, hb1⟩
  have x1 := below_cell hb1 h1
  have x1' := below_cell hb1 h1'
  have HB1 := Lib.hid hb1
  clear hb1
  by_cases hz : c1 = 0
  · subst hz
    go_wp2
    rw [rounds_succ]
    go_wp2_with fail
    refine (HC.out _ _ _).mono ?_
    rw [H2.out]
    rintro e w2 ⟨rfl, hb2⟩
    have HB2 := Lib.hid (HB1.out.trans (hb2.mono HB1.out.size))
    clear hb2
    by_cases hz2 : c2 = 0
    · subst hz2
      go_wp2
      rw [rounds_succ]
      go_wp2
      go_ret
      exact ⟨ret_int (by rw [HP.out]; rfl), HB2.out⟩
    · go_wp2
      go_ret
      exact ⟨ret_int (by rw [HP.out]; rfl), HB2.out⟩
  · go_wp2
    go_ret
    exact ⟨ret_int (by rw [HP.out, if_neg hz]), HB1.out⟩
end Go.Proofs.Ytmlhpchabnajkaa
