/- the reference's Check -/
import Derived.Test.YtmlhpchabnajkaaNet3
namespace Go.Proofs.Ytmlhpchabnajkaa
set_option linter.unusedSimpArgs false
set_option linter.unusedVariables false
open Go.RowKit
attribute [local go_sem ↓] Go.wp_at_zero Go.wp_at_succ
theorem validB_sites (a b : Int) : validB a b = (siteB a && (siteB b && !decide (b ≤ a))) := by
  rw [Bool.eq_iff_iff]
  simp only [validB, siteB, Bool.and_eq_true, decide_eq_true_eq, Bool.not_eq_true', decide_eq_false_iff_not]
  omega
set_option maxRecDepth 100000 in
set_option maxHeartbeats 3000000 in
theorem rcheck_any (n : NetM) (qa : Option Addr) (qc : Nat) (aa : Option Addr) (ac : Nat) (w : World) (hr : RNet (Now w) w n [.slice qa n.queue.length qc, .slice aa n.apart.length ac]) :
    Calls Try.prog 14 #[.agg #[.slice qa n.queue.length qc, .slice aa n.apart.length ac]] w (Gives (.int .i64 (chk n)) w) := by
  obtain ⟨qa', qc', aa', ac', e, h1, h2, h3, h4, h5, h6⟩ := hr
  cases e
  have HQ := Lib.hid h3
  have HA := Lib.hid h6
  clear h3 h6
  have HL := Lib.hid (chk_len (n := n))
  have HPK := Lib.hid (chk_pkt (n := n))
  have HAP := Lib.hid (chk_apart (n := n))
  have HOK := Lib.hid (chk_ok (n := n))
  unfold Gives
  generalize chk n = ck at *
  have HX : Hid (apartB n.apart = apartF (prevOf n.apart 0) (n.apart.drop 0)) := rfl
  generalize apartB n.apart = ab at *
  go_enter Try.func14, Try.ntmps14
  by_cases hq : n.queue.length ≤ 4096
  · have hq1 : decide (4096 < n.queue.length) = false := by simp; omega
    have hq2 : decide ((4096 : Int) < (n.queue.length : Int)) = false := by simp; omega
    go_wp2
    go_loopw [3] (fun i wr => ∃ k : Nat, k ≤ n.queue.length ∧ i = .int .i64 k ∧ Hid ((n.queue.take k).all pktB = true) ∧ Hid (Below (w.heap.size + 1) (w.alloc (.cells #[.slice qa n.queue.length qc, .slice aa n.apart.length ac] 25)) wr)) (fun i _ => n.queue.length - (intOf i).toNat)
    case atStart => exact ⟨0, Nat.zero_le _, rfl, by simp [Hid], Below.refl _ _⟩
    case round =>
      obtain ⟨k, hk, rfl, hf, HB⟩ := hrel
      have HBW := Lib.hid ((below_new w _).trans (HB.out.mono (by omega)))
      have y0 : wr.cell? ⟨w.heap.size, 0, none⟩ = some (.slice qa n.queue.length qc) := (HB.out.cell (by simp)).trans (by go_simp)
      have y1 : wr.cell? ⟨w.heap.size, 1, none⟩ = some (.slice aa n.apart.length ac) := (HB.out.cell (by simp)).trans (by go_simp)
      by_cases hlt : k < n.queue.length
      · obtain ⟨b, off, da, dc, rfl, g0, g1, g2, hp⟩ := RPk.at (HQ.out.below good_pk HBW.out) k hlt
        have hlen : n.queue[k].data.length ≤ 140737488351232 := by obtain ⟨_, _, _, _, _, _, h, _⟩ := hp; exact h
        have HC := Lib.hid (fun W => rpacket_any n.queue[k] da dc W hlen)
        have HT := Lib.hid (all_take_succ pktB n.queue k hlt)
        have HTR := Lib.hid (all_false_of pktB n.queue k hlt)
        clear hp
        generalize pktB n.queue[k] = pb at *
        go_wp2_with fail
        refine (HC.out _).mono ?_
        rintro e w1 ⟨rfl, hb1⟩
        have HB1 := Lib.hid (HBW.out.trans (hb1.mono HBW.out.size))
        have HB2 := Lib.hid (HB.out.trans (hb1.mono (by have := HB.out.size; simp at this; omega)))
        clear hb1
        cases pb
        · go_wp2
          go_ret
          exact ⟨ret_int (HPK.out (HTR.out (by trivial))).symm, HB1.out⟩
        · go_wp2
          go_roundw
          case rel => exact ⟨k + 1, by omega, by go_num, by unfold Hid; rw [HT.out, hf.out]; rfl, HB2⟩
          case measure => simp [intOf]; omega
      · have HALL : Hid (n.queue.all pktB = true) := by unfold Hid; have h := hf.out; rwa [List.take_of_length_le (by omega)] at h
        obtain ⟨wo, rfl⟩ : ∃ wo : World, wo = wr := ⟨_, rfl⟩
        go_wp2
        go_loopw [4] (fun i ws => ∃ k : Nat, k ≤ n.apart.length ∧ i = .int .i64 k ∧ Hid (ab = apartF (prevOf n.apart k) (n.apart.drop k)) ∧ Hid (Below wo.heap.size wo ws)) (fun i _ => n.apart.length - (intOf i).toNat)
        case atStart => exact ⟨0, Nat.zero_le _, rfl, HX, Below.refl _ _⟩
        case round =>
          clear hf hk hlt
          obtain ⟨k, hk, rfl, hf, HB3⟩ := hrel
          have HBX := Lib.hid (HBW.out.trans (HB3.out.mono HBW.out.size))
          have x1 := below_cell HB3.out y1
          clear y0 y1 HBW HB
          by_cases hlt : k < n.apart.length
          · obtain ⟨b, off, rfl, g0, g1, _, _⟩ := RPr.at (HA.out.below good_pr HBX.out) k hlt
            have HS := Lib.hid (apart_step n.apart k hlt)
            have HVS := Lib.hid (validB_sites n.apart[k].1 n.apart[k].2)
            obtain ⟨x, hx⟩ : ∃ x, n.apart[k] = x := ⟨_, rfl⟩
            rw [hx] at HS HVS g0 g1
            have HBY := Lib.hid (below_new wr (.cells #[.int .i64 x.1, .int .i64 x.2] 55))
            have HS1 := Lib.hid (fun W => site_any x.1 W)
            have HS2 := Lib.hid (fun W => site_any x.2 W)
            generalize siteB x.1 = s1 at *
            generalize siteB x.2 = s2 at *
            go_wp2_with fail
            refine (HS1.out _).mono ?_
            rintro e w1 ⟨rfl, hb1⟩
            have z0 : w1.cell? ⟨wr.heap.size, 0, none⟩ = some (.int .i64 x.1) := (hb1.cell (by simp)).trans (by go_simp)
            have z1 : w1.cell? ⟨wr.heap.size, 1, none⟩ = some (.int .i64 x.2) := (hb1.cell (by simp)).trans (by go_simp)
            have HB1 := Lib.hid (HBY.out.trans (hb1.mono HBY.out.size))
            clear hb1 HBY
            cases s1
            · go_wp2
              go_ret
              exact ⟨ret_int (HAP.out (by rw [hf.out, HS.out, HVS.out]; rfl)).symm, HBX.out.trans (HB1.out.mono HBX.out.size)⟩
            · go_wp2_with fail
              refine (HS2.out _).mono ?_
              rintro e w2 ⟨rfl, hb2⟩
              have v0 := below_cell hb2 z0
              have v1 := below_cell hb2 z1
              have HB2 := Lib.hid (HB1.out.trans (hb2.mono HB1.out.size))
              have v2 := below_cell HB2.out x1
              clear hb2 z0 z1 HB1
              have HB9 := Lib.hid (HBX.out.trans (HB2.out.mono HBX.out.size))
              have HB8 := Lib.hid (HB3.out.trans (HB2.out.mono HB3.out.size))
              cases s2
              · go_wp2
                go_ret
                exact ⟨ret_int (HAP.out (by rw [hf.out, HS.out, HVS.out]; rfl)).symm, HB9.out⟩
              · by_cases hge : x.2 ≤ x.1
                · go_wp2
                  go_ret
                  exact ⟨ret_int (HAP.out (by rw [hf.out, HS.out, HVS.out]; simp [hge])).symm, HB9.out⟩
                · have hge' : decide (x.2 ≤ x.1) = false := by simpa using hge
                  have HVT : Hid (validB x.1 x.2 = true) := by unfold Hid; rw [HVS.out, hge']; rfl
                  by_cases hk0 : 0 < k
                  · have hkj : k - 1 < n.apart.length := by omega
                    obtain ⟨b', off', e', f0, f1, _, _⟩ := RPr.at (HA.out.below good_pr HB9.out) (k - 1) hkj
                    cases e'
                    have HPV : Hid (prevOf n.apart k = some n.apart[k - 1]) := by
                      unfold Hid
                      obtain ⟨j, rfl⟩ : ∃ j, k = j + 1 := ⟨k - 1, by omega⟩
                      simp [prevOf, List.getElem?_eq_getElem hkj]
                    generalize n.apart[k - 1] = y at *
                    have hd : decide ((0 : Int) < (k : Int)) = true := by simp; omega
                    have hd' : decide (0 < k) = true := by simp; omega
                    have hj0 : (0 : Int) ≤ (k : Int) - 1 := by omega
                    have hj3 : (1 : Int) ≤ (k : Int) := by omega
                    have hj1 : (k : Int) - 1 < (n.apart.length : Int) := by omega
                    have hj2 : ((k : Int) - 1).toNat = k - 1 := by omega
                    have kw : IntKind.i64.wrap ((k : Int) - 1) = (k : Int) - 1 := IntWalk.i64_in _ (by omega)
                    clear HA
                    have HB9' := Lib.hid (fun q => below_drewN HB9.out q)
                    have HB8' := Lib.hid (fun q => below_drewN HB8.out q)
                    rcases Int.lt_trichotomy x.1 y.1 with hc | hc | hc
                    · have c1 : decide (x.1 < y.1) = true := by simpa using hc
                      have HBAD : Hid (ltP y x = false) := by unfold Hid ltP; simp; omega
                      go_wp2_with fail
                      refine wp_region_quiet_lit (by kernel_rfl) (by kernel_rfl) ?_
                      repeat (first | go_big_quiet_skip | quiet_step (fail))
                      refine wpQuiet_nil ?_
                      intro _ hw'
                      obtain ⟨nq, hw''⟩ := hw'
                      subst hw''
                      go_wp2
                      go_ret
                      exact ⟨ret_int (HAP.out (by rw [hf.out, HS.out, HPV.out]; simp [HBAD.out])).symm, HB9'.out nq⟩
                    · have c1 : decide (x.1 < y.1) = false := by simp; omega
                      have c2 : (x.1 == y.1) = true := by simpa using hc
                      have HC := Lib.hid hc
                      clear hc
                      by_cases hc3 : x.2 ≤ y.2
                      · have c3 : decide (x.2 ≤ y.2) = true := by simpa using hc3
                        have HBAD : Hid (ltP y x = false) := by unfold Hid ltP; have := HC.out; simp; omega
                        go_wp2_with fail
                        refine wp_region_quiet_lit (by kernel_rfl) (by kernel_rfl) ?_
                        repeat (first | go_big_quiet_skip | quiet_step (fail))
                        refine wpQuiet_nil ?_
                        intro _ hw'
                        obtain ⟨nq, hw''⟩ := hw'
                        subst hw''
                        go_wp2
                        go_ret
                        exact ⟨ret_int (HAP.out (by rw [hf.out, HS.out, HPV.out]; simp [HBAD.out])).symm, HB9'.out nq⟩
                      · have c3 : decide (x.2 ≤ y.2) = false := by simpa using hc3
                        have HGD : Hid (ltP y x = true) := by unfold Hid ltP; have := HC.out; simp; omega
                        go_wp2_with fail
                        refine wp_region_quiet_lit (by kernel_rfl) (by kernel_rfl) ?_
                        repeat (first | go_big_quiet_skip | quiet_step (fail))
                        refine wpQuiet_nil ?_
                        intro _ hw'
                        obtain ⟨nq, hw''⟩ := hw'
                        subst hw''
                        go_wp2
                        go_roundw
                        case rel => exact ⟨k + 1, by omega, by go_num, by unfold Hid; rw [hf.out, HS.out, HPV.out, HVT.out]; simp [HGD.out], HB8'.out nq⟩
                        case measure => simp [intOf]; clear kw hj2 hj0; omega
                    · have c1 : decide (x.1 < y.1) = false := by simp; omega
                      have c2 : (x.1 == y.1) = false := by simp; omega
                      have HGD : Hid (ltP y x = true) := by unfold Hid ltP; simp; omega
                      go_wp2_with fail
                      refine wp_region_quiet_lit (by kernel_rfl) (by kernel_rfl) ?_
                      repeat (first | go_big_quiet_skip | quiet_step (fail))
                      refine wpQuiet_nil ?_
                      intro _ hw'
                      obtain ⟨nq, hw''⟩ := hw'
                      subst hw''
                      go_wp2
                      go_roundw
                      case rel => exact ⟨k + 1, by omega, by go_num, by unfold Hid; rw [hf.out, HS.out, HPV.out, HVT.out]; simp [HGD.out], HB8'.out nq⟩
                      case measure => simp [intOf]; clear kw hj2 hj0; omega
                  · have hd : decide ((0 : Int) < (k : Int)) = false := by simp; omega
                    have hd' : decide (0 < k) = false := by simp; omega
                    have HPV : Hid (prevOf n.apart k = none) := by unfold Hid; rw [show k = 0 by omega]; rfl
                    have HB8' := Lib.hid (fun q => below_drewN HB8.out q)
                    clear HA
                    go_wp2_with fail
                    refine wp_region_quiet_lit (by kernel_rfl) (by kernel_rfl) ?_
                    repeat (first | go_big_quiet_skip | quiet_step (fail))
                    refine wpQuiet_nil ?_
                    intro _ hw'
                    obtain ⟨nq, hw''⟩ := hw'
                    subst hw''
                    go_wp2
                    go_roundw
                    case rel => exact ⟨k + 1, by omega, by go_num, by unfold Hid; rw [hf.out, HS.out, HPV.out, HVT.out]; simp, HB8'.out nq⟩
                    case measure => simp [intOf]; omega
          · go_wp2
            go_ret
            exact ⟨ret_int (HOK.out hq HALL.out (by rw [hf.out, List.drop_eq_nil_of_le (by omega)]; rfl)).symm, HBX.out⟩
  · have hq1 : decide (4096 < n.queue.length) = true := by simp; omega
    have hq2 : decide ((4096 : Int) < (n.queue.length : Int)) = true := by simp; omega
    go_wp2
    go_ret
    exact ⟨ret_int (HL.out hq).symm, below_new _ _⟩
end Go.Proofs.Ytmlhpchabnajkaa
