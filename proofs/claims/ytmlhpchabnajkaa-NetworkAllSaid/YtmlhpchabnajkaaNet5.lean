/- network: comparisons, places in the queue -/
import Derived.Test.YtmlhpchabnajkaaNet4
import Derived.Laws.BytesArg
import Derived.Laws.IdiomStrings
namespace Go.Proofs.Ytmlhpchabnajkaa
set_option linter.unusedSimpArgs false
set_option linter.unusedVariables false
open Go.RowKit
attribute [local go_sem ↓] Go.wp_at_zero Go.wp_at_succ
theorem below_free {w w' : World} (hb : Below w.heap.size w w') {a : Addr} {v : Value} (h : w.cell? a = some v) (hf : w.frozen? a = false) : w'.frozen? a = false := (hb.frozen (World.block_lt_of_cell? _ _ h)).trans hf
theorem conv_bytes {w : World} {a : Option Addr} {bs : List UInt8} (h : Row 1 RU8 w bs a) (cap : Nat) : (convert 26 9 (.slice a bs.length cap)).run Try.prog w = .ok (.string ⟨bs.toArray⟩) w := by
  cases a with
  | none =>
    have : bs = [] := by
      cases bs with
      | nil => rfl
      | cons x l => obtain ⟨b, off, cs, e, _⟩ := h 0 (by simp); cases e
    subst this
    exact run_convert_bytes_nil w 26 5 Try.underlying26 Try.underlying5 0 cap 9 Try.underlying9
  | some ad =>
    refine run_convert_bytes_back w 26 9 5 ad cap bs Try.underlying26 Try.underlying5 Try.underlying9 fun j hj => ?_
    obtain ⟨b, off, cs, e, _, hr, hc⟩ := h j hj
    injection e with e
    subst e
    have := hc 0 _ (by rw [hr]; rfl)
    rw [Nat.mul_one, Nat.add_zero] at this
    by_cases h0 : j = 0
    · subst h0; simpa [Addr.add, byteV] using this
    · simpa [Addr.add, h0, byteV] using this
theorem few_any (n : NetM) (qa : Option Addr) (qc : Nat) (aa : Option Addr) (ac : Nat) (w : World) (h1 : n.queue.length ≤ 140737488351232) (h2 : n.apart.length ≤ 140737488351232) :
    Calls Try.prog 10 #[.agg #[.slice qa n.queue.length qc, .slice aa n.apart.length ac]] w (Gives (.bool (fewB n)) w) := by
  unfold Gives
  go_enter Try.func10, Try.ntmps10
  go_wp2
  all_goals
    go_ret
    refine ⟨ret_bool ?_, below_new _ _⟩
    rw [Bool.eq_iff_iff]
    simp only [fewB, Bool.and_eq_true, decide_eq_true_eq, Bool.false_eq_true, iff_false, false_iff, iff_true, true_iff]
    omega
theorem samePkt_any (p q : Pkt) (a : Option Addr) (cap : Nat) (a' : Option Addr) (cap' : Nat) (w : World) (hp : Row 1 RU8 w p.data a) (hq : Row 1 RU8 w q.data a') :
    Calls Try.prog 19 #[.agg #[.int .i64 p.src, .int .i64 p.dst, .slice a p.data.length cap], .agg #[.int .i64 q.src, .int .i64 q.dst, .slice a' q.data.length cap']] w (Gives (.bool (samePktB p q)) w) := by
  obtain ⟨s1, d1, bs1⟩ := p
  obtain ⟨s2, d2, bs2⟩ := q
  simp only at hp hq ⊢
  have hb : Below w.heap.size w ((w.alloc (.cells #[.int .i64 s1, .int .i64 d1, .slice a bs1.length cap] 28)).alloc (.cells #[.int .i64 s2, .int .i64 d2, .slice a' bs2.length cap'] 28)) := (below_new _ _).alloc (by simp) _
  have c1 := conv_bytes (hp.below good_u8 hb) cap
  have c2 := conv_bytes (hq.below good_u8 hb) cap'
  have HB := Lib.hid hb
  clear hb hp hq
  unfold Gives
  go_enter Try.func19, Try.ntmps19
  by_cases e1 : s1 = s2
  · subst e1
    by_cases e2 : d1 = d2
    · subst e2
      go_wp2
      go_ret
      refine ⟨ret_bool ?_, HB.out⟩
      rw [Bool.eq_iff_iff]
      simp [samePktB]
    · have e2' : (d1 == d2) = false := by simpa using e2
      go_wp2
      go_ret
      exact ⟨ret_bool (by simp [samePktB, e2]), HB.out⟩
  · have e1' : (s1 == s2) = false := by simpa using e1
    go_wp2
    go_ret
    exact ⟨ret_bool (by simp [samePktB, e1]), HB.out⟩
theorem sameQ_len : ∀ (l m : List Pkt), sameQ l m = true → l.length = m.length
  | [], [], _ => rfl
  | [], _ :: _, h => by simp [sameQ] at h
  | _ :: _, [], h => by simp [sameQ] at h
  | p :: l, q :: m, h => by simp only [sameQ, Bool.and_eq_true] at h; rw [List.length_cons, List.length_cons, sameQ_len l m h.2]
theorem sameQ_step (l m : List Pkt) (k : Nat) (h : k < l.length) (h' : k < m.length) : sameQ (l.drop k) (m.drop k) = (samePktB l[k] m[k] && sameQ (l.drop (k + 1)) (m.drop (k + 1))) := by
  rw [List.drop_eq_getElem_cons h, List.drop_eq_getElem_cons h']
  rfl
def SameRel (a b : NetM) (z : Bool) (k : Nat) : Prop := a.queue.length = b.queue.length ∧ a.apart.length = b.apart.length ∧ k ≤ a.queue.length ∧ z = (sameQ (a.queue.drop k) (b.queue.drop k) && decide (a.apart = b.apart))
set_option maxRecDepth 100000 in
set_option maxHeartbeats 3000000 in
theorem same_any (a b : NetM) (qa : Option Addr) (qc : Nat) (aa : Option Addr) (ac : Nat) (qb : Option Addr) (qd : Nat) (ab : Option Addr) (ad : Nat) (w : World)
    (hr : RNet (Now w) w a [.slice qa a.queue.length qc, .slice aa a.apart.length ac]) (hr' : RNet (Now w) w b [.slice qb b.queue.length qd, .slice ab b.apart.length ad]) :
    Calls Try.prog 15 #[.agg #[.slice qa a.queue.length qc, .slice aa a.apart.length ac], .agg #[.slice qb b.queue.length qd, .slice ab b.apart.length ad]] w (Gives (.bool (sameB a b)) w) := by
  obtain ⟨_, _, _, _, e, h1, h2, h3, h4, h5, h6⟩ := hr
  cases e
  obtain ⟨_, _, _, _, e, h1', h2', h3', h4', h5', h6'⟩ := hr'
  cases e
  have HQ := Lib.hid h3
  have HA := Lib.hid h6
  have HQ' := Lib.hid h3'
  have HA' := Lib.hid h6'
  clear h3 h6 h3' h6' h1 h4 h1' h4'
  have HS : Hid (sameB a b = (sameQ a.queue b.queue && decide (a.apart = b.apart))) := rfl
  have HSL := Lib.hid (sameQ_len a.queue b.queue)
  unfold Gives
  generalize sameB a b = z at *
  have hb : Below w.heap.size w ((w.alloc (.cells #[.slice qa a.queue.length qc, .slice aa a.apart.length ac] 25)).alloc (.cells #[.slice qb b.queue.length qd, .slice ab b.apart.length ad] 25)) := (below_new _ _).alloc (by simp) _
  have HB0 := Lib.hid hb
  clear hb
  go_enter Try.func15, Try.ntmps15
  by_cases hl1 : a.queue.length = b.queue.length
  · by_cases hl2 : a.apart.length = b.apart.length
    · have b1 : ((a.queue.length : Int) != (b.queue.length : Int)) = false := by simp; omega
      have b2 : ((a.apart.length : Int) != (b.apart.length : Int)) = false := by simp; omega
      have b3 : (a.queue.length != b.queue.length) = false := by simp; omega
      have b4 : (a.apart.length != b.apart.length) = false := by simp; omega
      have HL1 := Lib.hid hl1
      have HL2 := Lib.hid hl2
      clear hl1 hl2
      obtain ⟨N, hN⟩ : ∃ N, b.queue.length = N := ⟨_, rfl⟩
      obtain ⟨M, hM⟩ : ∃ M, b.apart.length = M := ⟨_, rfl⟩
      have HN := Lib.hid hN
      have HM := Lib.hid hM
      rw [hN] at b1 b3 HB0 h2' ⊢
      rw [hM] at b2 b4 HB0 h5' ⊢
      clear hN hM
      go_wp2
      go_loopw [5] (fun i wr => ∃ k : Nat, k ≤ a.queue.length ∧ i = .int .i64 k ∧ Hid (z = (sameQ (a.queue.drop k) (b.queue.drop k) && decide (a.apart = b.apart))) ∧ Hid (Below (w.heap.size + 2) ((w.alloc (.cells #[.slice qa a.queue.length qc, .slice aa a.apart.length ac] 25)).alloc (.cells #[.slice qb N qd, .slice ab M ad] 25)) wr)) (fun i _ => a.queue.length - (intOf i).toNat)
      case atStart => exact ⟨0, Nat.zero_le _, rfl, HS, Below.refl _ _⟩
      case round =>
        obtain ⟨k, hk, rfl, hf, HB⟩ := hrel
        have HBW := Lib.hid (HB0.out.trans (HB.out.mono (by omega)))
        have y0 : wr.cell? ⟨w.heap.size, 0, none⟩ = some (.slice qa a.queue.length qc) := (HB.out.cell (by simp)).trans (by go_simp)
        have y1 : wr.cell? ⟨w.heap.size, 1, none⟩ = some (.slice aa a.apart.length ac) := (HB.out.cell (by simp)).trans (by go_simp)
        have y2 : wr.cell? ⟨w.heap.size + 1, 0, none⟩ = some (.slice qb N qd) := (HB.out.cell (by simp)).trans (by go_simp)
        have y3 : wr.cell? ⟨w.heap.size + 1, 1, none⟩ = some (.slice ab M ad) := (HB.out.cell (by simp)).trans (by go_simp)
        by_cases hlt : k < a.queue.length
        · have hlt' : k < b.queue.length := by have := HL1.out; omega
          have hlt2 : (k : Int) < (N : Int) := by have := HN.out; omega
          obtain ⟨ba, off, da, dc, rfl, g0, g1, g2, hp⟩ := RPk.at (HQ.out.below good_pk HBW.out) k hlt
          obtain ⟨ba', off', da', dc', rfl, g0', g1', g2', hp'⟩ := RPk.at (HQ'.out.below good_pk HBW.out) k hlt'
          have HST := Lib.hid (sameQ_step a.queue b.queue k hlt hlt')
          have HC : Hid (∀ p : Later wr, Calls Try.prog 19 #[.agg #[.int .i64 a.queue[k].src, .int .i64 a.queue[k].dst, .slice da a.queue[k].data.length dc], .agg #[.int .i64 b.queue[k].src, .int .i64 b.queue[k].dst, .slice da' b.queue[k].data.length dc']] p.W fun e w'' => e = .returned (.bool (samePktB a.queue[k] b.queue[k])) ∧ ∃ q : Later wr, w'' = q.W) := fun p => by
            obtain ⟨_, _, e, _, _, _, _, h⟩ := good_pk.below p.by_ hp
            cases e
            obtain ⟨_, _, e, _, _, _, _, h'⟩ := good_pk.below p.by_ hp'
            cases e
            exact later_of p (samePkt_any _ _ _ _ _ _ _ h h')
          clear hp hp'
          have z0 := fun p : Later wr => p.cell y0
          have z2 := fun p : Later wr => p.cell y2
          have v0 := fun p : Later wr => p.cell g0
          have v1 := fun p : Later wr => p.cell g1
          have v2 := fun p : Later wr => p.cell g2
          have v0' := fun p : Later wr => p.cell g0'
          have v1' := fun p : Later wr => p.cell g1'
          have v2' := fun p : Later wr => p.cell g2'
          generalize samePktB a.queue[k] b.queue[k] = sp at *
          go_wp2_with fail
          cases sp
          · refine wp_region_later (by kernel_rfl) (by kernel_rfl) ?_
            repeat (first | go_big_quiet_skip | quiet_step (with_reducible exact HC.out _))
            refine wpQuiet_nil ?_
            intro _ hw'
            obtain ⟨⟨W9, hW9⟩, rfl⟩ := hw'
            have HB9 := Lib.hid (HBW.out.trans (hW9.mono HBW.out.size))
            go_wp2
            go_ret
            exact ⟨ret_bool (by rw [hf.out, HST.out]; rfl), HB9.out⟩
          · refine wp_region_later (by kernel_rfl) (by kernel_rfl) ?_
            repeat (first | go_big_quiet_skip | quiet_step (with_reducible exact HC.out _))
            refine wpQuiet_nil ?_
            intro _ hw'
            obtain ⟨⟨W9, hW9⟩, rfl⟩ := hw'
            have HB9 := Lib.hid (HB.out.trans (hW9.mono (by have := HB.out.size; simp at this; omega)))
            go_wp2
            go_roundw
            case rel => exact ⟨k + 1, by omega, by go_num, by unfold Hid; rw [hf.out, HST.out]; rfl, HB9⟩
            case measure => simp [intOf]; omega
        · have HZ : Hid (z = decide (a.apart = b.apart)) := by
            unfold Hid
            have h := hf.out
            rw [List.drop_eq_nil_of_le (by omega), List.drop_eq_nil_of_le (by have := HL1.out; omega)] at h
            rw [h]; rfl
          obtain ⟨wo, rfl⟩ : ∃ wo : World, wo = wr := ⟨_, rfl⟩
          clear hf HS
          go_wp2
          clear hk hlt
          go_loopw [6] (fun i wr => ∃ k : Nat, k ≤ a.apart.length ∧ i = .int .i64 k ∧ Hid (a.apart.take k = b.apart.take k) ∧ Hid (Below wo.heap.size wo wr)) (fun i _ => a.apart.length - (intOf i).toNat)
          case atStart => exact ⟨0, Nat.zero_le _, rfl, rfl, Below.refl _ _⟩
          case round =>
            obtain ⟨k, hk, rfl, hf, HB3⟩ := hrel
            have HBX := Lib.hid (HBW.out.trans (HB3.out.mono HBW.out.size))
            have x1 := below_cell HB3.out y1
            have x3 := below_cell HB3.out y3
            by_cases hlt : k < a.apart.length
            · have hlt' : k < b.apart.length := by have := HL2.out; omega
              have hlt2 : (k : Int) < (M : Int) := by have := HM.out; omega
              obtain ⟨ba, off, rfl, g0, g1, _, _⟩ := RPr.at (HA.out.below good_pr HBX.out) k hlt
              obtain ⟨ba', off', rfl, g0', g1', _, _⟩ := RPr.at (HA'.out.below good_pr HBX.out) k hlt'
              have HTA := Lib.hid (List.take_succ_eq_append_getElem hlt)
              have HTB := Lib.hid (List.take_succ_eq_append_getElem hlt')
              have HNE : Hid (a.apart[k] ≠ b.apart[k] → a.apart ≠ b.apart) := fun h e => h (by simp [e])
              have eq2 := fun W => neq_pair a.apart[k].1 a.apart[k].2 b.apart[k].1 b.apart[k].2 W
              have HQ2 : Hid ((a.apart[k].1 == b.apart[k].1 && a.apart[k].2 == b.apart[k].2) = decide (a.apart[k] = b.apart[k])) := by
                unfold Hid
                rw [Bool.eq_iff_iff]
                simp [Prod.ext_iff]
              generalize a.apart[k] = x at *
              generalize b.apart[k] = y at *
              rw [HQ2.out] at eq2
              have HB9 := Lib.hid (fun q => below_drewN HBX.out q)
              have HB8 := Lib.hid (fun q => below_drewN HB3.out q)
              by_cases hxy : x = y
              · have hd : decide (x = y) = true := by simpa using hxy
                rw [hd] at eq2
                have HXY := Lib.hid hxy
                clear hd hxy
                go_wp2_with fail
                refine wp_region_quiet_lit (by kernel_rfl) (by kernel_rfl) ?_
                repeat (first | go_big_quiet_skip | quiet_step (fail))
                refine wpQuiet_nil ?_
                intro _ hw'
                obtain ⟨nq, hw''⟩ := hw'
                subst hw''
                go_wp2
                go_roundw
                case rel => exact ⟨k + 1, by omega, by go_num, by unfold Hid; rw [HTA.out, HTB.out, hf.out, HXY.out], HB8.out nq⟩
                case measure => simp [intOf]; omega
              · have hd : decide (x = y) = false := by simpa using hxy
                rw [hd] at eq2
                have HXY := Lib.hid hxy
                clear hd hxy
                go_wp2_with fail
                refine wp_region_quiet_lit (by kernel_rfl) (by kernel_rfl) ?_
                repeat (first | go_big_quiet_skip | quiet_step (fail))
                refine wpQuiet_nil ?_
                intro _ hw'
                obtain ⟨nq, hw''⟩ := hw'
                subst hw''
                go_wp2
                go_ret
                exact ⟨ret_bool (by rw [HZ.out]; simpa using HNE.out HXY.out), HB9.out nq⟩
            · go_wp2
              go_ret
              refine ⟨ret_bool ?_, HBX.out⟩
              have h := hf.out
              rw [List.take_of_length_le (by omega), List.take_of_length_le (by have := HL2.out; omega)] at h
              rw [HZ.out, h]; simp
    · have b1 : ((a.queue.length : Int) != (b.queue.length : Int)) = false := by simp; omega
      have b2 : ((a.apart.length : Int) != (b.apart.length : Int)) = true := by simp; omega
      have b3 : (a.queue.length != b.queue.length) = false := by simp; omega
      have b4 : (a.apart.length != b.apart.length) = true := by simp; omega
      have HN : Hid (z = false) := by unfold Hid; rw [HS.out]; simp; intro _ e; exact hl2 (by rw [e])
      clear hl1 hl2
      go_wp2
      go_ret
      exact ⟨ret_bool HN.out.symm, HB0.out⟩
  · have b1 : ((a.queue.length : Int) != (b.queue.length : Int)) = true := by simp; omega
    have b3 : (a.queue.length != b.queue.length) = true := by simp; omega
    have HN : Hid (z = false) := by
      unfold Hid
      rw [HS.out]
      cases hq : sameQ a.queue b.queue with
      | false => rfl
      | true => exact absurd (HSL.out hq) hl1
    clear hl1
    go_wp2
    go_ret
    exact ⟨ret_bool HN.out.symm, HB0.out⟩
end Go.Proofs.Ytmlhpchabnajkaa
