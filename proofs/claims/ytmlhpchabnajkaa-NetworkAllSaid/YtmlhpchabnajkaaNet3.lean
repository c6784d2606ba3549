/- network.Check -/
import Derived.Test.YtmlhpchabnajkaaNet2
namespace Go.Proofs.Ytmlhpchabnajkaa
set_option linter.unusedSimpArgs false
set_option linter.unusedVariables false
open Go.RowKit
attribute [local go_sem ↓] Go.wp_at_zero Go.wp_at_succ
def prevOf (l : List (Int × Int)) (k : Nat) : Option (Int × Int) := match k with | 0 => none | j + 1 => l[j]?
theorem apart_step (l : List (Int × Int)) (k : Nat) (h : k < l.length) : apartF (prevOf l k) (l.drop k) = (validB l[k].1 l[k].2 && (match prevOf l k with | none => true | some q => ltP q l[k]) && apartF (prevOf l (k + 1)) (l.drop (k + 1))) := by
  rw [List.drop_eq_getElem_cons h]
  have : prevOf l (k + 1) = some l[k] := by simp [prevOf, h]
  rw [this]
  rfl
theorem chk_len {n : NetM} (h : ¬ n.queue.length ≤ 4096) : chk n = 60 := by unfold chk netB; simp; intro h1; omega
theorem chk_pkt {n : NetM} (h : n.queue.all pktB = false) : chk n = 60 := by unfold chk netB; rw [h]; simp
theorem chk_apart {n : NetM} (h : apartB n.apart = false) : chk n = 60 := by unfold chk netB; rw [h]; simp
theorem chk_ok {n : NetM} (h : n.queue.length ≤ 4096) (h1 : n.queue.all pktB = true) (h2 : apartB n.apart = true) : chk n = 0 := by unfold chk netB; rw [h1, h2]; simp [h]
set_option maxRecDepth 100000 in
set_option maxHeartbeats 3000000 in
theorem check_any (n : NetM) (qa : Option Addr) (qc : Nat) (aa : Option Addr) (ac : Nat) (w : World) (hr : RNet (Now w) w n [.slice qa n.queue.length qc, .slice aa n.apart.length ac]) :
    Calls Try.prog 13 #[.agg #[.slice qa n.queue.length qc, .slice aa n.apart.length ac]] w (Gives (.int .i64 (chk n)) w) := by
  obtain ⟨qa', qc', aa', ac', e, h1, h2, h3, h4, h5, h6⟩ := hr
  cases e
  have HQ := Lib.hid h3
  have HA := Lib.hid h6
  clear h3 h6
  have HL := Lib.hid (chk_len (n := n))
  have HPK := Lib.hid (chk_pkt (n := n))
  have HAP := Lib.hid (chk_apart (n := n))
  have HOK := Lib.hid (chk_ok (n := n))
  unfold Gives
  generalize chk n = ck at *
  have HX : Hid (apartB n.apart = apartF (prevOf n.apart 0) (n.apart.drop 0)) := rfl
  generalize apartB n.apart = ab at *
  go_enter Try.func13, Try.ntmps13
  by_cases hq : n.queue.length ≤ 4096
  · have hq1 : decide (4096 < n.queue.length) = false := by simp; omega
    have hq2 : decide ((4096 : Int) < (n.queue.length : Int)) = false := by simp; omega
    go_wp2_with fail
    refine (containsPk_any n.queue qa qc _ (HQ.out.below good_pk (below_new _ _)) h2).mono ?_
    rintro e w1 ⟨rfl, hb1⟩
    have x1 : w1.cell? ⟨w.heap.size, 1, none⟩ = some (.slice aa n.apart.length ac) := (hb1.cell (by simp)).trans (by go_simp)
    have HB1 := Lib.hid ((below_new w _).trans (hb1.mono (by simp)))
    clear hb1
    generalize n.queue.all pktB = pb at *
    cases pb
    · go_wp2
      go_ret
      exact ⟨ret_int (HPK.out (by trivial)).symm, HB1.out⟩
    · go_wp2
      go_loopw [17] (fun i wr => ∃ k : Nat, k ≤ n.apart.length ∧ i = .int .i64 k ∧ Hid (ab = apartF (prevOf n.apart k) (n.apart.drop k)) ∧ Hid (Below w1.heap.size w1 wr)) (fun i _ => n.apart.length - (intOf i).toNat)
      case atStart => exact ⟨0, Nat.zero_le _, rfl, HX, Below.refl _ _⟩
      case round =>
        obtain ⟨k, hk, rfl, hf, HB⟩ := hrel
        have HBW := Lib.hid (HB1.out.trans (HB.out.mono HB1.out.size))
        have y1 := below_cell HB.out x1
        by_cases hlt : k < n.apart.length
        · obtain ⟨b, off, rfl, g0, g1, _, _⟩ := RPr.at (HA.out.below good_pr HBW.out) k hlt
          have HS := Lib.hid (apart_step n.apart k hlt)
          have HB2 := Lib.hid (below_new wr (.cells #[.int .i64 n.apart[k].1, .int .i64 n.apart[k].2] 55))
          have HV := Lib.hid (fun p : Later (wr.alloc (.cells #[.int .i64 n.apart[k].1, .int .i64 n.apart[k].2] 55)) => later_of p (valid_any n.apart[k].1 n.apart[k].2 p.W))
          have HBX := Lib.hid (HBW.out.trans (HB2.out.mono HBW.out.size))
          have z0 := fun p : Later (wr.alloc (.cells #[.int .i64 n.apart[k].1, .int .i64 n.apart[k].2] 55)) => p.cell (b := wr.heap.size) (o := 0) (v := .int .i64 n.apart[k].1) (by go_simp)
          have z1 := fun p : Later (wr.alloc (.cells #[.int .i64 n.apart[k].1, .int .i64 n.apart[k].2] 55)) => p.cell (b := wr.heap.size) (o := 1) (v := .int .i64 n.apart[k].2) (by go_simp)
          have z2 := fun p : Later (wr.alloc (.cells #[.int .i64 n.apart[k].1, .int .i64 n.apart[k].2] 55)) => p.cell (below_cell HB2.out y1)
          generalize validB n.apart[k].1 n.apart[k].2 = vb at *
          by_cases hk0 : 0 < k
          · have hkj : k - 1 < n.apart.length := by omega
            obtain ⟨b', off', e', f0, f1, _, _⟩ := RPr.at (HA.out.below good_pr HBW.out) (k - 1) hkj
            cases e'
            have HPV : Hid (prevOf n.apart k = some n.apart[k - 1]) := by
              unfold Hid
              obtain ⟨j, rfl⟩ : ∃ j, k = j + 1 := ⟨k - 1, by omega⟩
              simp [prevOf, List.getElem?_eq_getElem hkj]
            have v0 := fun p : Later (wr.alloc (.cells #[.int .i64 n.apart[k].1, .int .i64 n.apart[k].2] 55)) => p.cell (below_cell HB2.out f0)
            have v1 := fun p : Later (wr.alloc (.cells #[.int .i64 n.apart[k].1, .int .i64 n.apart[k].2] 55)) => p.cell (below_cell HB2.out f1)
            have HC := Lib.hid (fun p : Later (wr.alloc (.cells #[.int .i64 n.apart[k].1, .int .i64 n.apart[k].2] 55)) => later_of p (comparePr_any n.apart[k - 1] n.apart[k] b (off + (k - 1) * 2) wr.heap.size 0 2 2 p.W (v0 p) (v1 p) (z0 p) (z1 p)))
            have HLT := Lib.hid (cmpP_lt n.apart[k - 1] n.apart[k])
            generalize cmpP n.apart[k - 1] n.apart[k] = c at *
            have hd : decide ((0 : Int) < (k : Int)) = true := by simp; omega
            have hd' : decide (0 < k) = true := by simp; omega
            have hj0 : (0 : Int) ≤ (k : Int) - 1 := by omega
            have hj3 : (1 : Int) ≤ (k : Int) := by omega
            have hj1 : (k : Int) - 1 < (n.apart.length : Int) := by omega
            have hj2 : ((k : Int) - 1).toNat = k - 1 := by omega
            have kw : IntKind.i64.wrap ((k : Int) - 1) = (k : Int) - 1 := IntWalk.i64_in _ (by omega)
            clear HA
            go_wp2_with fail
            refine wp_region_later (by kernel_rfl) (by kernel_rfl) ?_
            cases vb
            · repeat (first | go_big_quiet_skip | quiet_step (with_reducible exact HV.out _))
              refine wpQuiet_nil ?_
              intro _ hw'
              obtain ⟨⟨W9, hW9⟩, rfl⟩ := hw'
              have HB9 := Lib.hid (HBX.out.trans (hW9.mono HBX.out.size))
              go_wp2
              go_ret
              exact ⟨ret_int (HAP.out (by rw [hf.out, HS.out]; rfl)).symm, HB9.out⟩
            · repeat (first | go_big_quiet_skip | quiet_step (first | with_reducible exact HV.out _ | with_reducible exact HC.out _))
              refine wpQuiet_nil ?_
              intro _ hw'
              obtain ⟨⟨W9, hW9⟩, rfl⟩ := hw'
              have HB9 := Lib.hid (HBX.out.trans (hW9.mono HBX.out.size))
              have HB8 := Lib.hid (HB.out.trans ((HB2.out.trans (hW9.mono HB2.out.size)).mono HB.out.size))
              clear kw hj2 hj0
              by_cases hc : 0 ≤ c
              · have hc' : decide (0 ≤ c) = true := by simpa using hc
                go_wp2
                go_ret
                exact ⟨ret_int (HAP.out (by have h := HLT.out; rw [hc'] at h; rw [hf.out, HS.out, HPV.out]; simp at h; simp [h])).symm, HB9.out⟩
              · have hc' : decide (0 ≤ c) = false := by simpa using hc
                go_wp2
                go_roundw
                case rel => exact ⟨k + 1, by omega, by go_num, by unfold Hid; have h := HLT.out; rw [hc'] at h; rw [hf.out, HS.out, HPV.out]; simp at h; simp [h], HB8.out⟩
                case measure => simp [intOf]; omega
          · have hd : decide ((0 : Int) < (k : Int)) = false := by simp; omega
            have hd' : decide (0 < k) = false := by simp; omega
            have HPV : Hid (prevOf n.apart k = none) := by unfold Hid; rw [show k = 0 by omega]; rfl
            clear HA
            go_wp2_with fail
            refine wp_region_later (by kernel_rfl) (by kernel_rfl) ?_
            cases vb
            · repeat (first | go_big_quiet_skip | quiet_step (with_reducible exact HV.out _))
              refine wpQuiet_nil ?_
              intro _ hw'
              obtain ⟨⟨W9, hW9⟩, rfl⟩ := hw'
              have HB9 := Lib.hid (HBX.out.trans (hW9.mono HBX.out.size))
              go_wp2
              go_ret
              exact ⟨ret_int (HAP.out (by rw [hf.out, HS.out]; rfl)).symm, HB9.out⟩
            · repeat (first | go_big_quiet_skip | quiet_step (with_reducible exact HV.out _))
              refine wpQuiet_nil ?_
              intro _ hw'
              obtain ⟨⟨W9, hW9⟩, rfl⟩ := hw'
              have HB9 := Lib.hid (HB.out.trans ((HB2.out.trans (hW9.mono HB2.out.size)).mono HB.out.size))
              go_wp2
              go_roundw
              case rel => exact ⟨k + 1, by omega, by go_num, by unfold Hid; rw [hf.out, HS.out, HPV.out]; rfl, HB9.out⟩
              case measure => simp [intOf]; omega
        · go_wp2
          go_ret
          exact ⟨ret_int (HOK.out hq (by trivial) (by rw [hf.out, List.drop_eq_nil_of_le (by omega)]; rfl)).symm, HBW.out⟩
  · have hq1 : decide (4096 < n.queue.length) = true := by simp; omega
    have hq2 : decide ((4096 : Int) < (n.queue.length : Int)) = true := by simp; omega
    go_wp2
    go_ret
    exact ⟨ret_int (HL.out hq).symm, below_new _ _⟩
end Go.Proofs.Ytmlhpchabnajkaa
