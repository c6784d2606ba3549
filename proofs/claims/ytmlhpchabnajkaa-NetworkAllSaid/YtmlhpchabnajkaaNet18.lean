/- network.cuts: the links that are cut, one by one -/
import Derived.RangeFuncNested
import Derived.RangeFuncBound
import Derived.RangeFuncCalls
import Derived.RangeFuncLeaves
import Derived.Shelf.Abstract
import Derived.Shelf.RegionOpen
import Derived.WalkKit
import Derived.OwnWalkIn
import Derived.TacticsInMore
import Derived.LoopNIn
import Derived.LoopIn
import Derived.Test.YtmlhpchabnajkaaNet17
namespace Go.Proofs.Ytmlhpchabnajkaa
set_option linter.unusedSimpArgs false
set_option linter.unusedVariables false
open Go.RowKit Go.Shelf
attribute [local go_sem] Oper.semAt_some
attribute [local go_sem ↓] Go.wp_at_zero Go.wp_at_succ
/-- a link as it is handed on -/
abbrev PrW := { p : Int × Int // i64R p.1 ∧ i64R p.2 }
def PrW.of (x k : Nat) (hx : x ≤ 24) (hk : k ≤ 24) : PrW := ⟨((x : Int), (k : Int)), nat_i64 hx, nat_i64 hk⟩
def prs (l : List PrW) : List (Int × Int) := l.map (·.1)
theorem prs_snoc (l : List PrW) (p : PrW) : prs (l ++ [p]) = prs l ++ [p.1] := by simp [prs]
theorem prs_len (l : List PrW) : (prs l).length = l.length := by simp [prs]
def encW (p : PrW) : Array Value := #[.agg #[.int .i64 p.1.1, .int .i64 p.1.2]]
/-- what lay below N lies on, but for one block -/
structure Kept (N S : Nat) (W W' : World) : Prop where
  size : W.heap.size ≤ W'.heap.size
  block : ∀ b, b < N → b ≠ S → W'.heap[b]? = W.heap[b]?
theorem Kept.refl (N S : Nat) (W : World) : Kept N S W W := ⟨Nat.le_refl _, fun _ _ _ => rfl⟩
theorem Kept.trans {N S : Nat} {A B C : World} (h : Kept N S A B) (k : Kept N S B C) : Kept N S A C := ⟨Nat.le_trans h.size k.size, fun b h1 h2 => (k.block b h1 h2).trans (h.block b h1 h2)⟩
theorem Kept.of_below {N S : Nat} {A B : World} (h : Below N A B) : Kept N S A B := ⟨h.size, fun b h1 _ => h.block b h1⟩
theorem Kept.alloc {N S : Nat} {A B : World} (h : Kept N S A B) (hN : N ≤ B.heap.size) (o : Obj) : Kept N S A (B.alloc o) := h.trans (.of_below ((Below.refl N B).alloc hN o))
theorem Kept.put {N S : Nat} {w : World} (hn : N ≤ w.heap.size) (W : World) (l : Nat) (o o' : Obj) (hl : w.heap.size ≤ l) (h : W.heap[l]? = some o) (h1 : o.isCells = false) (h2 : o.isWalk = false) : Kept N S W (W.putObj l o') := .of_below (belowK_b hn W l o o' hl h h1 h2)
set_option maxRecDepth 100000 in
set_option maxHeartbeats 3000000 in
theorem cuts1_in (n : Nat) (hn : 1 ≤ n) (lst : List (Int × Int)) (c : Int × Int) (on : Bool) (n₀ S l Bc Bo Bl : Nat) (aa : Option Addr) (ac : Nat) (J Jx : List PrW → World → Prop)
    (hY : ∀ pre x W, J pre W → pre.length < 577 → YieldAt Fence.wide (n - 1) Try.prog l (encW x) W fun e W' => (e = .returned (.bool true) ∧ J (pre ++ [x]) W' ∧ Kept n₀ S W W') ∨ (e = .returned (.bool false) ∧ Jx (pre ++ [x]) W'))
    (W : World) (hJ : AbidesFrom W.heap.size J) (hn₀ : n₀ ≤ W.heap.size) (hl : lst.length ≤ 140737488351232) (hrow : RRow 2 RPr (fun b => b < n₀ ∧ b ≠ S) W lst aa)
    (hc : Box W Bc #[.int .i64 c.1, .int .i64 c.2] 58) (ho : Box W Bo #[.bool on] 4) (hb : Box W Bl #[.slice aa lst.length ac] 23) (hBc : Bc < n₀) (hBo : Bo < n₀) (hBl : Bl < n₀) (hSc : Bc ≠ S) (hSo : Bo ≠ S) (hSl : Bl ≠ S) (h0 : J [] W) :
    CallsIn Fence.wide n Try.prog 46 #[.func (.yield l) #[] #[], .pointer (some ⟨Bc, 0, none⟩), .pointer (some ⟨Bo, 0, none⟩), .pointer (some ⟨Bl, 0, none⟩)] W fun e W' => (∃ v, e = .returned v) ∧
      ((∃ ys, prs ys = colAcc (keepB lst c on) 24 ∧ J ys W') ∨ (∃ pre, True ∧ Jx pre W')) := by
  have HY := Lib.hid hY
  have HJ := Lib.hid hJ
  have HROW := Lib.hid hrow
  have HC := Lib.hid hc
  have HO := Lib.hid ho
  have HBL := Lib.hid hb
  have HKP : Hid (∀ p, keepB lst c on p = if p = c then on else lst.contains p) := fun p => rfl
  generalize keepB lst c on = f at *
  clear hY hJ hrow hc ho hb
  refine callsIn_wide.2 ?_
  go_enter Try.func46, Try.ntmps46
  go_wp2
  go_loopw [8] (fun i wr => ∃ x : Nat, x ≤ 24 ∧ i = .int .i64 x ∧ Hid (∃ pre, prs pre = colAcc f x ∧ J pre wr) ∧ Hid (Kept n₀ S W wr) ∧ Hid (W.heap.size ≤ wr.heap.size)) (fun i _ => 24 - (intOf i).toNat)
  case atStart => exact ⟨0, Nat.zero_le _, rfl, ⟨[], rfl, h0⟩, Kept.refl _ _ _, Nat.le_refl _⟩
  case round =>
    obtain ⟨x, hx, rfl, HP, HB, HS⟩ := hrel
    by_cases hx24 : x < 24
    · have hxi : (x : Int) < 24 := by omega
      have HLX := Lib.hid (colAcc_len f x)
      have HCS : Hid (colAcc f (x + 1) = colAcc f x ++ rowAcc f x 24) := rfl
      have HP0 : Hid (∃ pre, prs pre = colAcc f x ++ rowAcc f x (x + 1) ∧ J pre wr) := by rw [rowAcc_low f x (Nat.le_refl (x + 1)), List.append_nil]; exact HP.out
      go_wp2
      obtain ⟨wo, rfl⟩ : ∃ wo : World, wo = wr := ⟨_, rfl⟩
      go_loopw [6] (fun i wr => ∃ k : Nat, x + 1 ≤ k ∧ k ≤ 24 ∧ i = .int .i64 k ∧ Hid (∃ pre, prs pre = colAcc f x ++ rowAcc f x k ∧ J pre wr) ∧ Hid (Kept n₀ S W wr) ∧ Hid (W.heap.size ≤ wr.heap.size)) (fun i _ => 24 - (intOf i).toNat)
      case atStart => exact ⟨x + 1, Nat.le_refl _, by omega, by go_num, HP0, HB, HS⟩
      case round =>
        clear HP HP0 HB HS
        obtain ⟨k, hxk, hk, rfl, HP, HB, HS⟩ := hrel
        by_cases hk24 : k < 24
        · have hki : (k : Int) < 24 := by omega
          obtain ⟨c1, c2⟩ := c
          have HBV : Hid (Kept n₀ S W (wr.alloc (.cells #[.int .i64 x, .int .i64 k] 58))) := HB.out.alloc (Nat.le_trans hn₀ HS.out) _
          have BC := (show Box wr Bc #[.int .i64 c1, .int .i64 c2] 58 from (HB.out.block Bc hBc hSc).trans HC.out).alloc (.cells #[.int .i64 x, .int .i64 k] 58)
          have BO := (show Box wr Bo #[.bool on] 4 from (HB.out.block Bo hBo hSo).trans HO.out).alloc (.cells #[.int .i64 x, .int .i64 k] 58)
          have BL := (show Box wr Bl #[.slice aa lst.length ac] 23 from (HB.out.block Bl hBl hSl).trans HBL.out).alloc (.cells #[.int .i64 x, .int .i64 k] 58)
          have c0 := BC.cell 0 rfl
          have c1' := BC.cell 1 rfl
          have o0 := BO.cell 0 rfl
          have l0 := BL.cell 0 rfl
          have HCT := Lib.hid (containsPr_any lst aa ac ((x : Int), (k : Int)) _ (HROW.out.keep good_pr (fun b h => Nat.lt_of_lt_of_le h.1 (Nat.le_trans hn₀ (Nat.le_trans HS.out (by simp)))) (fun b h => HBV.out.block b h.1 h.2)) hl)
          have hf := HKP.out ((x : Int), (k : Int))
          have HST := Lib.hid (fun (bb : Bool) (h : f ((x : Int), (k : Int)) = bb) => rowAcc_step f x k (by omega) h)
          have HLR := Lib.hid (rowAcc_len f x k)
          have HSV : Hid (W.heap.size ≤ (wr.alloc (.cells #[.int .i64 x, .int .i64 k] 58)).heap.size) := le_alloc HS.out _
          have HPV : Hid (∃ pre, prs pre = colAcc f x ++ rowAcc f x k ∧ J pre (wr.alloc (.cells #[.int .i64 x, .int .i64 k] 58))) := by
            obtain ⟨pre, h1, h2⟩ := HP.out
            exact ⟨pre, h1, HJ.out pre _ _ none h2 (grown_of (below_new _ _)) (fun r e => by cases e)⟩
          have q := fun a b a' b' W => eql_link a b a' b' W
          have q' := fun a b a' b' W => neq_link a b a' b' W
          generalize lst.contains ((x : Int), (k : Int)) = cb at *
          clear BC BO BL
          by_cases e : ((x : Int), (k : Int)) = (c1, c2)
          · rw [if_pos e] at hf
            cases e
            cases on
            · have HF := Lib.hid hf
              clear hf
              go_wp2
              go_roundw
              case rel => exact ⟨k + 1, by omega, by omega, by go_num, by unfold Hid; rw [HST.out _ HF.out]; simpa using HPV.out, HBV, HSV⟩
              case measure => simp [intOf]; omega
            · have HF := Lib.hid hf
              clear hf
              obtain ⟨pre, hpre, hJp⟩ := HPV.out
              obtain ⟨fn, tmps, assign, body, hy, hR⟩ := HY.out pre (PrW.of x k hx hk) _ hJp (by rw [← prs_len, hpre, List.length_append]; have := HLX.out; have := HLR.out; omega)
              dsimp only [encW, PrW.of] at hy
              have HPRE := Lib.hid hpre
              clear hpre
              go_upto_region 8 with (fail)
              refine (wpIn_wide (n := n)).1 ?_
              gi_wp2
              refine hR.mono ?_
              rintro e W3 (⟨rfl, hJ3, hk3⟩ | ⟨rfl, hJx3⟩)
              · have HBW3 := Lib.hid (HBV.out.trans hk3)
                have HSW3 : Hid (W.heap.size ≤ W3.heap.size) := Nat.le_trans HSV.out hk3.size
                have HPW3 : Hid (∃ pre, prs pre = colAcc f x ++ rowAcc f x (k + 1) ∧ J pre W3) := ⟨_, by rw [prs_snoc, HPRE.out, HST.out _ HF.out, if_pos rfl, ← List.append_assoc]; rfl, hJ3⟩
                clear hJ3 hk3
                gi_wp2
                go_wp2
                go_roundw
                case rel => exact ⟨k + 1, by omega, by omega, by go_num, HPW3, HBW3, HSW3⟩
                case measure => simp [intOf]; omega
              · gi_wp2
                go_wp2
                refine bodyPost_ret (results_none rfl _ _ _) rfl ?_
                exact ⟨⟨_, rfl⟩, .inr ⟨_, trivial, hJx3⟩⟩
          · rw [if_neg e] at hf
            have HF := Lib.hid hf
            clear hf
            have hc : (((x : Int) == c1) = true ∧ ((k : Int) == c2) = false) ∨ ((x : Int) == c1) = false := by
              by_cases h1 : (x : Int) = c1
              · by_cases h2 : (k : Int) = c2
                · exact absurd (by rw [h1, h2]) e
                · exact .inl ⟨by simpa using h1, by simpa using h2⟩
              · exact .inr (by simpa using h1)
            clear e
            rcases hc with ⟨h1, h2⟩ | h1
            all_goals
              go_wp2_with fail
              refine HCT.out.mono ?_
              rintro e w4 ⟨rfl, hb4⟩
              have HB4 : Hid (Kept n₀ S W w4) := HBV.out.trans (.of_below (hb4.mono (Nat.le_trans hn₀ HSV.out)))
              have HS4 : Hid (W.heap.size ≤ w4.heap.size) := Nat.le_trans HSV.out hb4.size
              have HP4 : Hid (∃ pre, prs pre = colAcc f x ++ rowAcc f x k ∧ J pre w4) := by
                obtain ⟨pre, h1, h2⟩ := HPV.out
                exact ⟨pre, h1, HJ.out pre _ _ none h2 (grown_of hb4) (fun r e => by cases e)⟩
              have T4 := (Box.new wr #[.int .i64 x, .int .i64 k] 58).below hb4
              have t0 := T4.cell 0 rfl
              have t1 := T4.cell 1 rfl
              clear T4 hb4 HCT c0 c1' o0 l0
              cases cb
              · go_wp2
                go_roundw
                case rel => exact ⟨k + 1, by omega, by omega, by go_num, by unfold Hid; rw [HST.out _ HF.out]; simpa using HP4.out, HB4, HS4⟩
                case measure => simp [intOf]; omega
              · have HPZ := HP4
                obtain ⟨pre, hpre, hJp⟩ := HP4.out
                obtain ⟨fn, tmps, assign, body, hy, hR⟩ := HY.out pre (PrW.of x k hx hk) _ hJp (by rw [← prs_len, hpre, List.length_append]; have := HLX.out; have := HLR.out; omega)
                dsimp only [encW, PrW.of] at hy
                have HPRE := Lib.hid hpre
                clear hpre
                go_upto_region 8 with (fail)
                refine (wpIn_wide (n := n)).1 ?_
                gi_wp2
                refine hR.mono ?_
                rintro e W3 (⟨rfl, hJ3, hk3⟩ | ⟨rfl, hJx3⟩)
                · have HBW3 := Lib.hid (HB4.out.trans hk3)
                  have HSW3 : Hid (W.heap.size ≤ W3.heap.size) := Nat.le_trans HS4.out hk3.size
                  have HPW3 : Hid (∃ pre, prs pre = colAcc f x ++ rowAcc f x (k + 1) ∧ J pre W3) := ⟨_, by rw [prs_snoc, HPRE.out, HST.out _ HF.out, if_pos rfl, ← List.append_assoc]; rfl, hJ3⟩
                  clear hJ3 hk3
                  gi_wp2
                  go_wp2
                  go_roundw
                  case rel => exact ⟨k + 1, by omega, by omega, by go_num, HPW3, HBW3, HSW3⟩
                  case measure => simp [intOf]; omega
                · gi_wp2
                  go_wp2
                  refine bodyPost_ret (results_none rfl _ _ _) rfl ?_
                  exact ⟨⟨_, rfl⟩, .inr ⟨_, trivial, hJx3⟩⟩
        · have hk' : k = 24 := by omega
          subst hk'
          go_wp2
          go_roundw
          case rel => exact ⟨x + 1, by omega, by go_num, by unfold Hid; rw [HCS.out]; exact HP.out, HB, HS⟩
          case measure => simp [intOf]; omega
    · have hx' : x = 24 := by omega
      subst hx'
      go_wp2
      go_end0
      obtain ⟨pre, h1, h2⟩ := HP.out
      exact ⟨⟨_, rfl⟩, .inl ⟨pre, h1, h2⟩⟩
end Go.Proofs.Ytmlhpchabnajkaa
