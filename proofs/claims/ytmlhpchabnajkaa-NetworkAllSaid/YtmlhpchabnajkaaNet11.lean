/- the reference's without -/
import Derived.Test.YtmlhpchabnajkaaNet10
namespace Go.Proofs.Ytmlhpchabnajkaa
set_option linter.unusedSimpArgs false
set_option linter.unusedVariables false
open Go.RowKit
attribute [local go_sem ↓] Go.wp_at_zero Go.wp_at_succ
attribute [local go_sem] gquiet gquietAt sameUpon growUpon leB_true
set_option maxRecDepth 100000 in
set_option maxHeartbeats 3000000 in
theorem rwithout_any (n : NetM) (k : Nat) (hk : k < n.queue.length) (qa : Option Addr) (qc : Nat) (aa : Option Addr) (ac : Nat) (w : World) (F : Nat → Prop) (hF : ∀ b, F b → b < w.heap.size) (hr : RNet F w n [.slice qa n.queue.length qc, .slice aa n.apart.length ac]) (hlen : n.queue.length ≤ 1000000) :
    Calls Try.prog 42 #[.agg #[.slice qa n.queue.length qc, .slice aa n.apart.length ac], .int .i64 k] w (GivesNet F (dropAt n k) w) := by
  have HFL := Lib.hid hF
  clear hF
  obtain ⟨_, _, _, _, e, hq1, hq2, hq3, ha1, ha2, ha3⟩ := hr
  cases e
  obtain ⟨b, off, rfl⟩ := hq3.some_of (by omega)
  obtain ⟨w2, hw2⟩ : ∃ w2, w2 = (w.alloc (.cells #[.slice (some ⟨b, off, none⟩) n.queue.length qc, .slice aa n.apart.length ac] 25)).alloc (.cells #[.slice none 0 0, .slice none 0 0] 25) := ⟨_, rfl⟩
  have hb2 : Below w.heap.size w w2 := by rw [hw2]; exact (below_new _ _).alloc (by simp) _
  have HB2 := Lib.hid hb2
  have HX2 : Hid (Box w2 w.heap.size #[.slice (some ⟨b, off, none⟩) n.queue.length qc, .slice aa n.apart.length ac] 25) := by rw [hw2]; exact (Box.new w _ _).alloc _
  have HZ2 : Hid (Box w2 (w.heap.size + 1) #[.slice none 0 0, .slice none 0 0] 25) := by
    rw [hw2]
    have h := Box.new (w.alloc (.cells #[.slice (some ⟨b, off, none⟩) n.queue.length qc, .slice aa n.apart.length ac] 25)) #[.slice none 0 0, .slice none 0 0] 25
    simpa [Hid] using h
  have HF : Hid (∀ b, F b → GF F w2.heap.size b) := fun b hb => .inl hb
  have HQ0 := Lib.hid hq3
  have HQ3 := Lib.hid (RRow.inF good_pk HFL.out HF.out hb2 hq3)
  have HA0 := Lib.hid ha3
  have HA3 := Lib.hid (RRow.inF good_pr HFL.out HF.out hb2 ha3)
  have B3 : Hid ((n.queue.take k).length ≤ maxLen) := maxLen_le (by simp; omega)
  have B4 : Hid ((n.queue.take k).length * 40 ≤ 140737488355328) := by unfold Hid; simp; omega
  have B1 : Hid ((n.queue.take k).length + (n.queue.drop (k + 1)).length ≤ maxLen) := maxLen_le (by simp; omega)
  have B2 : Hid (((n.queue.take k).length + (n.queue.drop (k + 1)).length) * 40 ≤ 140737488355328) := by unfold Hid; simp; omega
  have HSZ : Hid (w.heap.size + 1 < w2.heap.size) := HZ2.out.lt
  have HL1 : Hid ((n.queue.take k).length = k) := by unfold Hid; simp; omega
  have HL2 : Hid ((n.queue.drop (k + 1)).length = n.queue.length - (k + 1)) := by unfold Hid; simp
  have HD : Hid (dropAt n k = ⟨n.queue.take k ++ n.queue.drop (k + 1), n.apart⟩) := rfl
  have HDL := Lib.hid (dropAt_len n k hk)
  generalize dropAt n k = m at *
  have x0 := HX2.out.cell 0 rfl
  have HXR : Hid (RRow 3 RPk F w (n.queue.drop (k + 1)) (if qc = k + 1 then some ⟨b, off, none⟩ else some ⟨b, off + (k + 1) * 3, none⟩)) := by
    have h := HQ0.out.drop hq1 (k + 1)
    unfold cutA at h
    unfold Hid
    by_cases hc : qc = k + 1
    · rw [if_pos hc] at h ⊢; exact h
    · rw [if_neg hc] at h ⊢
      have h' : RRow 3 RPk F w (n.queue.drop (k + 1)) (some ⟨b, off + (k + 1) * 3, none⟩) := by simpa [Addr.add] using h
      exact h'
  clear hq3 ha3 hb2
  go_enter Try.func42, Try.ntmps42
  go_wp2
  rw [← hw2]
  clear hw2
  have r0 := fun p : LaterG LeB w2.drew => p.drewCell x0
  have i1 : (k : Int) ≤ (qc : Int) := by omega
  have i2 : (k : Int) + 1 ≤ (n.queue.length : Int) := by omega
  have i3 : (0 : Int) ≤ (k : Int) := by omega
  have i4 : (0 : Int) ≤ (k : Int) + 1 := by omega
  have i5 : ((k : Int) + 1).toNat = k + 1 := by omega
  have kw : IntKind.i64.wrap ((k : Int) + 1) = (k : Int) + 1 := IntWalk.i64_in _ (by omega)
  refine wp_region_grow [0, 1, 2, 3, 4, 5, 6, 7, 8, 9, 10] [11, 12, 13] LeB (tbl [(0, NoneAt 28 w2.heap.size), (5, OwnN RPk 3 28 w2.heap.size F (n.queue.take k))]) (hvOf [(0, []), (5, [0])]) (by kernel_rfl) (by kernel_rfl) (by kernel_rfl) (lawful_cons (noneAt_stable _ _) (lawful_cons (ownN_stable good_pk _ _ _ _) lawful_nil)) (leB_refl _) ?_
  simp only [pickOps, List.getElem?_cons_zero, List.getElem?_cons_succ, List.map_cons, List.map_nil]
  refine wpG_heavy rfl rfl (fun q _ => ?_) (fun v0 => ?_)
  · go_simp
    exact ⟨below_new _ _, q.W.heap.size, rfl, q.below.size, Box.new _ _ _⟩
  simp only [Act.put, List.setIfInBounds_toArray, List.set_cons_zero, List.set_cons_succ]
  repeat (refine wpG_step rfl (fun K hK => ?_); go_simp; refine hK _ ?_; clear hK K)
  refine wpG_heavy rfl rfl (fun q hq => ?_) (fun v5 => ?_)
  · have h0 : NoneAt 28 w2.heap.size v0 q.W := hq 0 (by simp)
    have hbq : Below w.heap.size w q.W := HB2.out.trans (q.below.mono HB2.out.size)
    have hrq : RRow 3 RPk F q.W (n.queue.take k) (some ⟨b, off, none⟩) := (good_row_same good_pk HFL.out hbq HQ0.out).take k
    obtain ⟨news, hS, hcl⟩ := Source.row' (P := Try.prog) (t := 22) (cap := qc) good_pk hrq
    have hS' : Source Try.prog 22 22 3 q.W (.slice (some ⟨b, off, none⟩) k qc) (n.queue.take k).length news := by rw [HL1.out] at hS ⊢; exact hS
    exact grow_empty good_pk (.tmp 5) (.tmp 9) rfl elemPk v0 rfl h0 q.below.size (fun b hb => by have := HFL.out b hb; have := HSZ.out; omega) _ news rfl hS' hcl B3.out B4.out
  simp only [Act.put, List.setIfInBounds_toArray, List.set_cons_zero, List.set_cons_succ]
  repeat (refine wpG_step rfl (fun K hK => ?_); go_simp; refine hK _ ?_; clear hK K)
  refine wpG_nil ?_
  intro q hf
  obtain ⟨hN, hFB, xs, ho3, hc3⟩ : OwnN RPk 3 28 w2.heap.size F (n.queue.take k) v5 q.W := hf 5 [0] (by simp) rfl
  have hbq : Below w.heap.size w q.W := HB2.out.trans (q.below.mono HB2.out.size)
  have hrq := good_row_same good_pk HFL.out hbq HXR.out
  obtain ⟨news, hS, hcl⟩ := Source.row' (P := Try.prog) (t := 22) (cap := qc - (k + 1)) good_pk hrq
  have HS5 : Hid (Source Try.prog 22 22 3 q.W (.slice (if qc = k + 1 then some ⟨b, off, none⟩ else some ⟨b, off + (k + 1) * 3, none⟩) (n.queue.length - (k + 1)) (qc - (k + 1))) (n.queue.drop (k + 1)).length news) := by unfold Hid; rw [HL2.out] at hS ⊢; exact hS
  have HGR : Hid (∀ v' W', Grew w2.heap.size 28 3 q.W v5 v' ((n.queue.take k).length + (n.queue.drop (k + 1)).length) (xs ++ news) W' → OwnN RPk 3 28 w2.heap.size F (n.queue.take k ++ n.queue.drop (k + 1)) v' W' ∧ Below w2.heap.size w2 W') := fun v' W' hg =>
    ⟨OwnN.grew good_pk hN hFB ho3 hc3 hcl hg, q.below.trans (hg.below q.below.size (fun g e => (ho3.lt g e).1))⟩
  have HO3 := Lib.hid ho3
  have hszq : w2.heap.size ≤ q.W.heap.size := q.below.size
  clear hf r0 ho3 hc3 hN kw i5 i4 x0 hrq hS hcl hbq
  obtain ⟨w3, W3by⟩ := q
  simp only at HS5 HGR HO3 hszq ⊢
  generalize (if qc = k + 1 then some (⟨b, off, none⟩ : Addr) else some ⟨b, off + (k + 1) * 3, none⟩) = xo at *
  obtain ⟨L, hL⟩ : ∃ L, (n.queue.take k ++ n.queue.drop (k + 1)).length = L := ⟨_, rfl⟩
  have HL := Lib.hid hL
  clear hL
  go_wp2_with (at_builtin; refine wpList_app rfl _ _ rfl elemPk w2.heap.size _ _ _ rfl HO3.out _ _ _ rfl HS5.out (.inl rfl) B1.out B2.out hszq ?_; intro v6 w4 hg6; obtain ⟨hown6, hb6⟩ := HGR.out v6 w4 hg6; clear hg6; have HX4 := Lib.hid (HX2.out.below hb6); have HZ4 := Lib.hid (HZ2.out.below hb6); have HB4 := Lib.hid (HB2.out.trans (hb6.mono HB2.out.size)); obtain ⟨ao', cap', hv', hc1, hrow⟩ := hown6.row good_pk; rw [HL.out] at hv' hc1; subst hv'; have HRW := Lib.hid hrow; clear hrow hown6 hb6; have hfx := HX4.out.free 0; have hcx := HX4.out.cell 0 rfl; have HX5 := Lib.hid (HX4.out.set 0 (.slice ao' L cap')); have HZ5 := Lib.hid (HZ4.out.other (b' := w.heap.size) (o := 0) (by omega) (.slice ao' L cap')); have a0 := HX5.out.cell 0 rfl; have a1 := HX5.out.cell 1 rfl; have b0 := HZ5.out.cell 0 rfl; have b1 := HZ5.out.cell 1 rfl; have fb0 := HZ5.out.free 0; have fb1 := HZ5.out.free 1)
  have B9 := ((HZ5.out.set 0 (.slice ao' L cap')).set 1 (.slice aa n.apart.length ac))
  have hs2 := HSZ.out
  have hk2 : ∀ b, GF F w2.heap.size b → (((w4.setCell ⟨w.heap.size, 0, none⟩ (.slice ao' L cap')).setCell ⟨w.heap.size + 1, 0, none⟩ (.slice ao' L cap')).setCell ⟨w.heap.size + 1, 1, none⟩ (.slice aa n.apart.length ac)).heap[b]? = w4.heap[b]? := fun b hb => by
    have hb' : b < w.heap.size ∨ w2.heap.size ≤ b := hb.imp (HFL.out b) id
    rw [Below.heap_setCell _ _ _ _ (by show b ≠ w.heap.size + 1; omega), Below.heap_setCell _ _ _ _ (by show b ≠ w.heap.size + 1; omega), Below.heap_setCell _ _ _ _ (by show b ≠ w.heap.size; omega)]
  have hsz : w4.heap.size ≤ (((w4.setCell ⟨w.heap.size, 0, none⟩ (.slice ao' L cap')).setCell ⟨w.heap.size + 1, 0, none⟩ (.slice ao' L cap')).setCell ⟨w.heap.size + 1, 1, none⟩ (.slice aa n.apart.length ac)).heap.size := by simp [World.setCell]
  have hfr : ∀ b, b < w4.heap.size ∧ (F b ∨ w2.heap.size ≤ b) → Fr F w (((w4.setCell ⟨w.heap.size, 0, none⟩ (.slice ao' L cap')).setCell ⟨w.heap.size + 1, 0, none⟩ (.slice ao' L cap')).setCell ⟨w.heap.size + 1, 1, none⟩ (.slice aa n.apart.length ac)) b := fun b hb => ⟨hb.2.imp id (fun h => by omega), Nat.lt_of_lt_of_le hb.1 hsz⟩
  have hq5 := HRW.out.keep good_pk hfr (fun b hb => hk2 b hb.2)
  have ha5 := (good_row_same good_pr HFL.out HB4.out HA0.out).keep good_pr (fun b hb => hfr b ⟨Nat.lt_of_lt_of_le (HFL.out b hb) HB4.out.size, .inl hb⟩) (fun b hb => hk2 b (.inl hb))
  refine bodyPost_ret (v := .agg #[.slice ao' L cap', .slice aa n.apart.length ac]) (by simp [results, Try.results42, go_sem, B9.cell 0 rfl, B9.cell 1 rfl]) rfl ?_
  have hmq : m.queue = n.queue.take k ++ n.queue.drop (k + 1) := by rw [HD.out]
  have hma : m.apart = n.apart := by rw [HD.out]
  have hll : m.queue.length = L := by rw [hmq, HL.out]
  have hl3 : L = k + (n.queue.length - (k + 1)) := by rw [← hll]; exact HDL.out
  refine ⟨ao', cap', aa, ac, by rw [hll, hma], ⟨ao', cap', aa, ac, by rw [hll, hma], by rw [hll]; exact hc1, by rw [hll]; omega, by rw [hmq]; exact hq5, by rw [hma]; exact ha1, by rw [hma]; exact ha2, by rw [hma]; exact ha5⟩, ?_⟩
  exact ((HB4.out.setCell (by simp) _).setCell (by simp) _).setCell (by simp) _
end Go.Proofs.Ytmlhpchabnajkaa
