/- the reference's Cut -/
import Derived.Test.YtmlhpchabnajkaaNet16
import Derived.Test.YtmlhpchabnajkaaNetCut
namespace Go.Proofs.Ytmlhpchabnajkaa
set_option linter.unusedSimpArgs false
set_option linter.unusedVariables false
open Go.RowKit
attribute [local go_sem ↓] Go.wp_at_zero Go.wp_at_succ
theorem infoPr : (Try.prog.info? 55).map (fun i => (i.zero, i.size, i.bytes)) = some (some (.agg #[.int .i64 0, .int .i64 0]), 2, 16) := by kernel_rfl
theorem elemPr : Elem Try.prog 23 55 (.agg #[.int .i64 0, .int .i64 0]) 2 16 := ⟨Try.underlying23, infoPr, rfl, by decide, fun h => by cases h⟩
theorem own_pr {B : Nat} {w : World} {v : Value} {l : List (Int × Int)} {e : TypeId} (h : OwnL RPr 2 e B w v l) : ∃ a cap, v = .slice a l.length cap ∧ l.length ≤ cap ∧ RRow 2 RPr (fun b => B ≤ b ∧ b < w.heap.size) w l a := by
  obtain ⟨a, cap, h1, h2, h3, h4⟩ := h.row good_pr
  refine ⟨a, cap, h1, h2, fun i hi => ?_⟩
  obtain ⟨b, off, cs, rfl, hb, hr, hc⟩ := h3 i hi
  exact ⟨b, off, cs, rfl, h4 _ rfl, hr, hc⟩
theorem nat_i64 {x : Nat} (h : x ≤ 24) : i64R (x : Int) := by unfold i64R; omega
theorem own_pr_grew {B : Nat} {w w' : World} {v v' : Value} {l : List (Int × Int)} {xs : List Value} {e : TypeId} {x k : Nat} (hx : x ≤ 24) (hk : k ≤ 24) (h : CellsL RPr (Off w v) w l xs) (hg : Grew B e 2 w v v' (l.length + 1) (xs ++ [.int .i64 x, .int .i64 k]) w') : OwnL RPr 2 e B w' v' (l ++ [((x : Int), (k : Int))]) :=
  OwnL.grew (m := [((x : Int), (k : Int))]) good_pr h (CellsL.single ⟨rfl, nat_i64 hx, nat_i64 hk⟩) hg
theorem one_pr (x k : Nat) : ∀ u ∈ [Value.int .i64 x, Value.int .i64 k], u.oneCell' = true := by simp [Value.oneCell']
theorem nat_eq {x : Nat} {c : Int} : ((x : Int) == c) = decide ((x : Int) = c) := rfl
theorem cut_end {F : Nat → Prop} {w U W : World} {n : NetM} {l : List (Int × Int)} {qa : Option Addr} {qc : Nat} {aa : Option Addr} {ac : Nat} {pa : Option Addr} {pc : Nat} (hF : ∀ b, F b → b < w.heap.size) (hU : w.heap.size + 1 < U.heap.size) (hb : Below w.heap.size w U) (hW : Below U.heap.size U W)
    (hr : RNet F w n [.slice qa n.queue.length qc, .slice aa n.apart.length ac]) (hpc : l.length ≤ pc) (hl : l.length ≤ 140737488351232) (hrow : RRow 2 RPr (fun b => U.heap.size ≤ b ∧ b < W.heap.size) W l pa) :
    NetRet F ⟨n.queue, l⟩ 0 w (.returned (.tuple #[.agg #[.slice qa n.queue.length qc, .slice pa l.length pc], .int .i64 0])) (((W.setCell ⟨w.heap.size, 1, none⟩ (.slice pa l.length pc)).setCell ⟨w.heap.size + 1, 0, none⟩ (.slice qa n.queue.length qc)).setCell ⟨w.heap.size + 1, 1, none⟩ (.slice pa l.length pc)) := by
  have hb2 := hb.trans (hW.mono hb.size)
  have hk : ∀ b, b ≠ w.heap.size → b ≠ w.heap.size + 1 → (((W.setCell ⟨w.heap.size, 1, none⟩ (.slice pa l.length pc)).setCell ⟨w.heap.size + 1, 0, none⟩ (.slice qa n.queue.length qc)).setCell ⟨w.heap.size + 1, 1, none⟩ (.slice pa l.length pc)).heap[b]? = W.heap[b]? := fun b h1 h2 => by
    rw [Below.heap_setCell _ _ _ _ (by show b ≠ w.heap.size + 1; exact h2), Below.heap_setCell _ _ _ _ (by show b ≠ w.heap.size + 1; exact h2), Below.heap_setCell _ _ _ _ (by show b ≠ w.heap.size; exact h1)]
  have hs : (((W.setCell ⟨w.heap.size, 1, none⟩ (.slice pa l.length pc)).setCell ⟨w.heap.size + 1, 0, none⟩ (.slice qa n.queue.length qc)).setCell ⟨w.heap.size + 1, 1, none⟩ (.slice pa l.length pc)).heap.size = W.heap.size := by simp [World.setCell]
  obtain ⟨_, _, _, _, e, h1, h2, h3, h4, h5, h6⟩ := hr
  cases e
  have s1 := hW.size
  refine ⟨qa, qc, pa, pc, rfl, ⟨qa, qc, pa, pc, rfl, h1, h2, h3.keep good_pk (fun b h => ?_) (fun b h => ?_), hpc, hl, hrow.keep good_pr (fun b h => ?_) (fun b h => ?_)⟩, ((hb2.setCell (Nat.le_refl _) _).setCell (by simp) _).setCell (by simp) _⟩
  · have := hF b h
    have := hb2.size
    exact ⟨.inl h, by rw [hs]; omega⟩
  · have := hF b h
    rw [hk b (by omega) (by omega)]
    exact hb2.block b this
  · exact ⟨.inr (by omega), by rw [hs]; exact h.2⟩
  · exact hk b (by omega) (by omega)
set_option maxRecDepth 100000 in
set_option maxHeartbeats 3000000 in
theorem rcut_any (n : NetM) (a b : Int) (on : Bool) (qa : Option Addr) (qc : Nat) (aa : Option Addr) (ac : Nat) (w : World) (F : Nat → Prop) (hF : ∀ b, F b → b < w.heap.size) (hr : RNet F w n [.slice qa n.queue.length qc, .slice aa n.apart.length ac]) :
    Calls Try.prog 21 #[.agg #[.slice qa n.queue.length qc, .slice aa n.apart.length ac], .int .i64 a, .int .i64 b, .bool on] w (NetRet F (cutN n a b on) (cutE n a b) w) := by
  have HFL := Lib.hid hF
  clear hF
  have HR := Lib.hid hr
  clear hr
  have hb0 : Below w.heap.size w ((w.alloc (.cells #[.slice qa n.queue.length qc, .slice aa n.apart.length ac] 25)).alloc (.cells #[.slice none 0 0, .slice none 0 0] 25)) := (below_new _ _).alloc (by simp) _
  have HB0 := Lib.hid hb0
  clear hb0
  have HC := Lib.hid (rcheck_any n qa qc aa ac _ (good_net.below HB0.out (good_net.toNow HFL.out HR.out)))
  have HE1 := Lib.hid (cutE_bad (n := n) (a := a) (b := b))
  have HE2 := Lib.hid (cutE_arg (n := n) (a := a) (b := b))
  have HE3 := Lib.hid (cutE_ok (n := n) (a := a) (b := b))
  have HN1 := Lib.hid (cutN_err (n := n) (a := a) (b := b) (on := on))
  have HN2 := Lib.hid (cutN_ok (n := n) (a := a) (b := b) (on := on))
  have HCK : Hid (chk n = if netB n then 0 else 60) := rfl
  have HSA : Hid (∀ w, Calls Try.prog 34 #[.int .i64 a] w (Gives (.bool (siteB a)) w)) := fun w => site_any a w
  have HSB : Hid (∀ w, Calls Try.prog 34 #[.int .i64 b] w (Gives (.bool (siteB b)) w)) := fun w => site_any b w
  have HSR : Hid (siteB a = true → siteB b = true → 0 ≤ a ∧ a < 24 ∧ 0 ≤ b ∧ b < 24) := fun h1 h2 => by
    unfold siteB at h1 h2
    simp only [Bool.and_eq_true, decide_eq_true_eq] at h1 h2
    omega
  generalize cutN n a b on = m at *
  generalize cutE n a b = er at *
  generalize chk n = ck at *
  generalize netB n = nb at *
  generalize siteB a = sa at *
  generalize siteB b = sb at *
  go_enter Try.func21, Try.ntmps21
  go_wp2_with fail
  refine HC.out.mono ?_
  rintro e w1 ⟨rfl, hb1⟩
  have BX : Box w1 w.heap.size #[.slice qa n.queue.length qc, .slice aa n.apart.length ac] 25 := ((Box.new w _ _).alloc _).below hb1
  have BZ : Box w1 (w.heap.size + 1) #[.slice none 0 0, .slice none 0 0] 25 := by
    have h := (Box.new (w.alloc (.cells #[.slice qa n.queue.length qc, .slice aa n.apart.length ac] 25)) #[.slice none 0 0, .slice none 0 0] 25).below hb1
    simpa using h
  have HB1 := Lib.hid (HB0.out.trans (hb1.mono (by simp; omega)))
  clear hb1 HC
  have HX := Lib.hid BX
  have HZ := Lib.hid BZ
  clear BX BZ
  -- what is answered where an argument is wrong
  have HERR : Hid (∀ W, Below w1.heap.size w1 W → er ≠ 0 → NetRet F m er w (.returned (.tuple #[.agg #[.slice none 0 0, .slice none 0 0], .int .i64 er])) ((W.setCell ⟨w.heap.size + 1, 0, none⟩ (.slice none 0 0)).setCell ⟨w.heap.size + 1, 1, none⟩ (.slice none 0 0))) := fun W hW he => by
    rw [HN1.out he]
    exact ⟨none, 0, none, 0, rfl, rnet_nil _ _, ((HB1.out.trans (hW.mono HB1.out.size)).setCell (by simp) _).setCell (by simp) _⟩
  cases nb
  · have he := HE1.out rfl
    have hck : ck = 60 := HCK.out
    subst hck he
    have z0 := HZ.out.cell 0 rfl
    have z1 := HZ.out.cell 1 rfl
    have fz0 := HZ.out.free 0
    have fz1 := HZ.out.free 1
    go_wp2
    have B2 := ((HZ.out.set 0 (.slice none 0 0)).set 1 (.slice none 0 0))
    exact bodyPost_ret (v := .tuple #[.agg #[.slice none 0 0, .slice none 0 0], .int .i64 60]) (by simp [results, Try.results21, go_sem, B2.cell 0 rfl, B2.cell 1 rfl]) rfl (HERR.out _ (Below.refl _ _) (by decide))
  · have hck : ck = 0 := HCK.out
    subst hck
    go_wp2_with fail
    refine (HSA.out _).mono ?_
    rintro e w2 ⟨rfl, hb2⟩
    have HB2 := Lib.hid hb2
    clear hb2
    cases sa
    · have he : er = 1 := HE2.out (by trivial) (by simp)
      subst he
      have CZ := HZ.out.below HB2.out
      have z0 := CZ.cell 0 rfl
      have z1 := CZ.cell 1 rfl
      have fz0 := CZ.free 0
      have fz1 := CZ.free 1
      have HZ2 := Lib.hid CZ
      clear CZ
      go_wp2
      have B2 := ((HZ2.out.set 0 (.slice none 0 0)).set 1 (.slice none 0 0))
      exact bodyPost_ret (v := .tuple #[.agg #[.slice none 0 0, .slice none 0 0], .int .i64 1]) (by simp [results, Try.results21, go_sem, B2.cell 0 rfl, B2.cell 1 rfl]) rfl (HERR.out _ HB2.out (by decide))
    · go_wp2_with fail
      refine (HSB.out _).mono ?_
      rintro e w3 ⟨rfl, hb3⟩
      have HB3 := Lib.hid (HB2.out.trans (hb3.mono HB2.out.size))
      have CX := HX.out.below HB3.out
      have CZ := HZ.out.below HB3.out
      have HBW := Lib.hid (HB1.out.trans (HB3.out.mono HB1.out.size))
      have z0 := CZ.cell 0 rfl
      have z1 := CZ.cell 1 rfl
      have fz0 := CZ.free 0
      have fz1 := CZ.free 1
      have HX3 := Lib.hid CX
      have HZ3 := Lib.hid CZ
      clear hb3 CX CZ HX HZ HB2
      cases sb
      · have he : er = 1 := HE2.out (by trivial) (by simp)
        subst he
        go_wp2
        have B2 := ((HZ3.out.set 0 (.slice none 0 0)).set 1 (.slice none 0 0))
        exact bodyPost_ret (v := .tuple #[.agg #[.slice none 0 0, .slice none 0 0], .int .i64 1]) (by simp [results, Try.results21, go_sem, B2.cell 0 rfl, B2.cell 1 rfl]) rfl (HERR.out _ HB3.out (by decide))
      · by_cases hab : a = b
        · have he : er = 1 := HE2.out (by trivial) (by simp [hab])
          subst he hab
          go_wp2
          have B2 := ((HZ3.out.set 0 (.slice none 0 0)).set 1 (.slice none 0 0))
          exact bodyPost_ret (v := .tuple #[.agg #[.slice none 0 0, .slice none 0 0], .int .i64 1]) (by simp [results, Try.results21, go_sem, B2.cell 0 rfl, B2.cell 1 rfl]) rfl (HERR.out _ HB3.out (by decide))
        · have he : er = 0 := HE3.out (by trivial) (by trivial) (by trivial) hab
          have hm := HN2.out he
          subst he
          obtain ⟨ra0, ra1, rb0, rb1⟩ := HSR.out (by trivial) (by trivial)
          have HKB : Hid (∀ x y : Int, x < y → keepB n.apart (linkOf a b) on (x, y) = if x = min a b ∧ y = max a b then on else cutB n.apart x y) := fun x y h => keepB_in n.apart on h
          generalize keepB n.apart (linkOf a b) on = f at *
          have HM := Lib.hid hm
          clear hm HE1 HE2 HE3 HN1 HN2 HCK HSA HSB HSR HERR
          have hne2 : (a == b) = false := by simpa using hab
          rcases Int.lt_or_gt_of_ne hab with hlt | hlt
          case' inl =>
            obtain ⟨lo, hlo⟩ : ∃ lo, lo = a := ⟨_, rfl⟩
            obtain ⟨hi, hhi⟩ : ∃ hi, hi = b := ⟨_, rfl⟩
            subst hlo hhi
            rw [Int.min_eq_left (by omega), Int.max_eq_right (by omega)] at HKB
          case' inr =>
            obtain ⟨lo, hlo⟩ : ∃ lo, lo = b := ⟨_, rfl⟩
            obtain ⟨hi, hhi⟩ : ∃ hi, hi = a := ⟨_, rfl⟩
            subst hlo hhi
            rw [Int.min_eq_right (by omega), Int.max_eq_left (by omega)] at HKB
          all_goals
            have hle : lo ≤ hi := by omega
            clear hab
            go_wp2
            clear hle
            have hle : lo ≤ hi := by omega
            go_loopw [10, 11] (fun l i wr => ∃ x : Nat, x ≤ 24 ∧ i = .int .i64 x ∧ Hid (OwnL RPr 2 55 w3.heap.size wr l (colAcc f x)) ∧ Hid (Below w3.heap.size w3 wr)) (fun _ i _ => 24 - (intOf i).toNat)
            case atStart => exact ⟨0, Nat.zero_le _, rfl, OwnL.nil _ _ _, Below.refl _ _⟩
            case round =>
              obtain ⟨x, hx, rfl, HO, HB⟩ := hrel
              have HXR := Lib.hid (HX3.out.below HB.out)
              have HZR := Lib.hid (HZ3.out.below HB.out)
              by_cases hx24 : x < 24
              · have HLX := Lib.hid (colAcc_len f x)
                have HRL := Lib.hid (rowAcc_low f x (Nat.le_refl (x + 1)))
                have HCS : Hid (colAcc f (x + 1) = colAcc f x ++ rowAcc f x 24) := rfl
                have HO0 : Hid (OwnL RPr 2 55 w3.heap.size wr u10 (colAcc f x ++ rowAcc f x (x + 1))) := by rw [HRL.out, List.append_nil]; exact HO.out
                have HB0' := Lib.hid HB.out
                have hxi : (x : Int) < 24 := by omega
                go_wp2
                obtain ⟨wo, rfl⟩ : ∃ wo : World, wo = wr := ⟨_, rfl⟩
                clear HO HB HRL HXR HZR
                go_loopw [10, 12] (fun l i wr => ∃ k : Nat, x + 1 ≤ k ∧ k ≤ 24 ∧ i = .int .i64 k ∧ Hid (OwnL RPr 2 55 w3.heap.size wr l (colAcc f x ++ rowAcc f x k)) ∧ Hid (Below w3.heap.size w3 wr)) (fun _ i _ => 24 - (intOf i).toNat)
                case atStart => exact ⟨x + 1, Nat.le_refl _, by omega, by go_num, HO0, HB0'⟩
                case round =>
                  obtain ⟨k, hxk, hk, rfl, HO, HB⟩ := hrel
                  clear HO0 HB0'
                  by_cases hk24 : k < 24
                  · have HXR := Lib.hid (HX3.out.below HB.out)
                    have HBR := Lib.hid (HBW.out.trans (HB.out.mono HBW.out.size))
                    have HC := Lib.hid (isCut_any n x k qa qc aa ac wr (good_net.below HBR.out (good_net.toNow HFL.out HR.out)))
                    have hki : (k : Int) < 24 := by omega
                    have x0 := HXR.out.cell 0 rfl
                    have x1 := HXR.out.cell 1 rfl
                    have hf := HKB.out x k (by omega)
                    have HLR := Lib.hid (rowAcc_len f x k)
                    generalize cutB n.apart x k = cb at *
                    go_wp2_with fail
                    refine HC.out.mono ?_
                    rintro e w4 ⟨rfl, hb4⟩
                    have HB4 := Lib.hid (HB.out.trans (hb4.mono HB.out.size))
                    have HO4 := Lib.hid (HO.out.below good_pr hb4)
                    clear HC hb4 HO HB HXR HBR x0 x1
                    have hc : Hid ((((x : Int) == lo) = true ∧ ((k : Int) == hi) = true ∧ f ((x : Int), (k : Int)) = on) ∨ (((x : Int) == lo) = true ∧ ((k : Int) == hi) = false ∧ f ((x : Int), (k : Int)) = cb) ∨ (((x : Int) == lo) = false ∧ f ((x : Int), (k : Int)) = cb)) := by
                      by_cases h1 : (x : Int) = lo
                      · by_cases h2 : (k : Int) = hi
                        · exact .inl ⟨by simpa using h1, by simpa using h2, by rw [hf, if_pos ⟨h1, h2⟩]⟩
                        · exact .inr (.inl ⟨by simpa using h1, by simpa using h2, by rw [hf, if_neg (fun h => h2 h.2)]⟩)
                      · exact .inr (.inr ⟨by simpa using h1, by rw [hf, if_neg (fun h => h1 h.1)]⟩)
                    clear hf
                    have HST := Lib.hid (fun (bb : Bool) (h : f ((x : Int), (k : Int)) = bb) => rowAcc_step f x k (by omega) h)
                    -- the links without this one
                    have HOF : Hid (f ((x : Int), (k : Int)) = false → OwnL RPr 2 55 w3.heap.size w4 u10 (colAcc f x ++ rowAcc f x (k + 1))) := fun h => by rw [HST.out _ h]; simpa using HO4.out
                    have HOA := Lib.hid (HO4.out.below good_pr ((Below.refl _ _).alloc (Nat.le_refl _) (.cells #[.int .i64 x, .int .i64 k] 55)))
                    obtain ⟨xs, hown, hcl⟩ := HOA.out
                    have HOW := Lib.hid hown
                    have HCL := Lib.hid hcl
                    have HLT : Hid (∀ g, u10.ownBlock = some g → w3.heap.size ≤ g) := fun g hg => (hown.lt g hg).1
                    have K3 : Hid ((colAcc f x ++ rowAcc f x k).length + 1 ≤ maxLen) := maxLen_le (by rw [List.length_append]; have := HLX.out; have := HLR.out; omega)
                    have K4 : Hid (((colAcc f x ++ rowAcc f x k).length + 1) * 16 ≤ 140737488355328) := by unfold Hid; rw [List.length_append]; have := HLX.out; have := HLR.out; omega
                    have hsz : w3.heap.size ≤ (w4.alloc (.cells #[.int .i64 x, .int .i64 k] 55)).heap.size := le_alloc HB4.out.size _
                    have HCN := Lib.hid (World.news_of_block (w := w4.alloc (.cells #[.int .i64 x, .int .i64 k] 55)) (heap_alloc_new w4 (.cells #[.int .i64 x, .int .i64 k] 55)))
                    have HOT : Hid (∀ v' w', Grew w3.heap.size 55 2 (w4.alloc (.cells #[.int .i64 x, .int .i64 k] 55)) u10 v' ((colAcc f x ++ rowAcc f x k).length + 1) (xs ++ [.int .i64 x, .int .i64 k]) w' → f ((x : Int), (k : Int)) = true → OwnL RPr 2 55 w3.heap.size w' v' (colAcc f x ++ rowAcc f x (k + 1)) ∧ Below w3.heap.size w3 w') := fun v' w' hg h => by
                      rw [HST.out _ h, if_pos rfl, ← List.append_assoc]
                      exact ⟨own_pr_grew hx hk HCL.out hg, (HB4.out.alloc HB4.out.size _).trans (hg.below hsz HLT.out)⟩
                    clear hown hcl HO4 HST HOA HLT HCL HLR
                    generalize colAcc f x ++ rowAcc f x k = l0 at *
                    rcases hc.out with ⟨h1, h2, h3⟩ | ⟨h1, h2, h3⟩ | ⟨h1, h3⟩
                    · cases on
                      · go_wp2
                        go_roundw
                        case rel => exact ⟨k + 1, by omega, by omega, by go_num, HOF.out h3, HB4⟩
                        case measure => simp [intOf]; omega
                      · go_wp2_with (at_builtin; refine wpList_app rfl _ _ rfl elemPr w3.heap.size _ _ _ rfl HOW.out _ 1 _ rfl (Source.cells _ _ _ _ rfl rfl HCN.out (one_pr x k)) (.inl rfl) K3.out K4.out hsz ?_; intro v5 w5 hg5)
                        obtain ⟨h5, h6⟩ := HOT.out v5 w5 hg5 h3
                        go_roundw
                        case rel => exact ⟨k + 1, by omega, by omega, by go_num, h5, h6⟩
                        case measure => simp [intOf]; omega
                    · cases cb
                      · go_wp2
                        go_roundw
                        case rel => exact ⟨k + 1, by omega, by omega, by go_num, HOF.out h3, HB4⟩
                        case measure => simp [intOf]; omega
                      · go_wp2_with (at_builtin; refine wpList_app rfl _ _ rfl elemPr w3.heap.size _ _ _ rfl HOW.out _ 1 _ rfl (Source.cells _ _ _ _ rfl rfl HCN.out (one_pr x k)) (.inl rfl) K3.out K4.out hsz ?_; intro v5 w5 hg5)
                        obtain ⟨h5, h6⟩ := HOT.out v5 w5 hg5 h3
                        go_roundw
                        case rel => exact ⟨k + 1, by omega, by omega, by go_num, h5, h6⟩
                        case measure => simp [intOf]; omega
                    · cases cb
                      · go_wp2
                        go_roundw
                        case rel => exact ⟨k + 1, by omega, by omega, by go_num, HOF.out h3, HB4⟩
                        case measure => simp [intOf]; omega
                      · go_wp2_with (at_builtin; refine wpList_app rfl _ _ rfl elemPr w3.heap.size _ _ _ rfl HOW.out _ 1 _ rfl (Source.cells _ _ _ _ rfl rfl HCN.out (one_pr x k)) (.inl rfl) K3.out K4.out hsz ?_; intro v5 w5 hg5)
                        obtain ⟨h5, h6⟩ := HOT.out v5 w5 hg5 h3
                        go_roundw
                        case rel => exact ⟨k + 1, by omega, by omega, by go_num, h5, h6⟩
                        case measure => simp [intOf]; omega
                  · have hk' : k = 24 := by omega
                    subst hk'
                    go_wp2
                    go_roundw
                    case rel => exact ⟨x + 1, by omega, by go_num, by unfold Hid; rw [HCS.out]; exact HO.out, HB⟩
                    case measure => simp [intOf]; omega
              · have hx' : x = 24 := by omega
                subst hx'
                obtain ⟨pa, pc, rfl, hpc, hrow⟩ := own_pr HO.out
                have HRW := Lib.hid hrow
                have x0 := HXR.out.cell 0 rfl
                have x1 := HXR.out.cell 1 rfl
                have fx1 := HXR.out.free 1
                have y0 := HZR.out.cell 0 rfl
                have y1 := HZR.out.cell 1 rfl
                have fy0 := HZR.out.free 0
                have fy1 := HZR.out.free 1
                clear hrow
                go_wp2
                have hm := HM.out
                have hz3 := HZ3.out.lt
                have BZ := ((HZR.out.other (o := 1) (show w.heap.size + 1 ≠ w.heap.size by omega) (.slice pa (colAcc f 24).length pc)).set 0 (.slice qa n.queue.length qc)).set 1 (.slice pa (colAcc f 24).length pc)
                refine bodyPost_ret (v := .tuple #[.agg #[.slice qa n.queue.length qc, .slice pa (colAcc f 24).length pc], .int .i64 0]) (by simp [results, Try.results21, go_sem, BZ.cell 0 rfl, BZ.cell 1 rfl]) rfl ?_
                subst hm
                exact cut_end HFL.out hz3 HBW.out HB.out HR.out hpc (Nat.le_trans (colAcc_len f 24) (by decide)) HRW.out
end Go.Proofs.Ytmlhpchabnajkaa
