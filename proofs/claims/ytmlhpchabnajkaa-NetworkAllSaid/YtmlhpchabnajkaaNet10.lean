/- network: without -/
import Derived.Test.YtmlhpchabnajkaaNet9
namespace Go.Proofs.Ytmlhpchabnajkaa
set_option linter.unusedSimpArgs false
set_option linter.unusedVariables false
open Go.RowKit
attribute [local go_sem ↓] Go.wp_at_zero Go.wp_at_succ
attribute [local go_sem] gquiet gquietAt sameUpon growUpon leB_true
def GivesNet (F : Nat → Prop) (m : NetM) (w : World) (e : Ending) (w' : World) : Prop :=
  ∃ qa qc aa ac, e = .returned (.agg #[.slice qa m.queue.length qc, .slice aa m.apart.length ac]) ∧ RNet (Fr F w w') w' m [.slice qa m.queue.length qc, .slice aa m.apart.length ac] ∧ Below w.heap.size w w'
theorem dropAt_len (n : NetM) (k : Nat) (h : k < n.queue.length) : (dropAt n k).queue.length = k + (n.queue.length - (k + 1)) := by
  simp [dropAt]; omega
set_option maxRecDepth 100000 in
set_option maxHeartbeats 3000000 in
theorem without_any (n : NetM) (k : Nat) (hk : k < n.queue.length) (qa : Option Addr) (qc : Nat) (aa : Option Addr) (ac : Nat) (w : World) (F : Nat → Prop) (hF : ∀ b, F b → b < w.heap.size) (hr : RNet F w n [.slice qa n.queue.length qc, .slice aa n.apart.length ac]) (hlen : n.queue.length ≤ 1000000) :
    Calls Try.prog 38 #[.agg #[.slice qa n.queue.length qc, .slice aa n.apart.length ac], .int .i64 k] w (GivesNet F (dropAt n k) w) := by
  have HFL := Lib.hid hF
  clear hF
  obtain ⟨_, _, _, _, e, hq1, hq2, hq3, ha1, ha2, ha3⟩ := hr
  cases e
  obtain ⟨b, off, rfl⟩ := hq3.some_of (by omega)
  obtain ⟨w2, hw2⟩ : ∃ w2, w2 = (w.alloc (.cells #[.slice (some ⟨b, off, none⟩) n.queue.length qc, .slice aa n.apart.length ac] 25)).alloc (.cells #[.slice none 0 0, .slice none 0 0] 25) := ⟨_, rfl⟩
  have hb2 : Below w.heap.size w w2 := by rw [hw2]; exact (below_new _ _).alloc (by simp) _
  have HB2 := Lib.hid hb2
  have HX2 : Hid (Box w2 w.heap.size #[.slice (some ⟨b, off, none⟩) n.queue.length qc, .slice aa n.apart.length ac] 25) := by rw [hw2]; exact (Box.new w _ _).alloc _
  have HZ2 : Hid (Box w2 (w.heap.size + 1) #[.slice none 0 0, .slice none 0 0] 25) := by
    rw [hw2]
    have h := Box.new (w.alloc (.cells #[.slice (some ⟨b, off, none⟩) n.queue.length qc, .slice aa n.apart.length ac] 25)) #[.slice none 0 0, .slice none 0 0] 25
    simpa [Hid] using h
  have HF : Hid (∀ b, F b → GF F w2.heap.size b) := fun b hb => .inl hb
  have HQ3 := Lib.hid (RRow.inF good_pk HFL.out HF.out hb2 hq3)
  have HA3 := Lib.hid (RRow.inF good_pr HFL.out HF.out hb2 ha3)
  have B1 : Hid ((n.queue.take k).length + (n.queue.drop (k + 1)).length ≤ maxLen) := maxLen_le (by simp; omega)
  have B2 : Hid (((n.queue.take k).length + (n.queue.drop (k + 1)).length) * 40 ≤ 140737488355328) := by unfold Hid; simp; omega
  have HSZ : Hid (w.heap.size + 1 < w2.heap.size) := HZ2.out.lt
  have HL1 : Hid ((n.queue.take k).length = k) := by unfold Hid; simp; omega
  have HL2 : Hid ((n.queue.drop (k + 1)).length = n.queue.length - (k + 1)) := by unfold Hid; simp
  have HD : Hid (dropAt n k = ⟨n.queue.take k ++ n.queue.drop (k + 1), n.apart⟩) := rfl
  have HDL := Lib.hid (dropAt_len n k hk)
  generalize dropAt n k = m at *
  have x0 := HX2.out.cell 0 rfl
  have HXR : Hid (RRow 3 RPk (InF (GF F w2.heap.size) w2) w2 (n.queue.drop (k + 1)) (if qc = k + 1 then some ⟨b, off, none⟩ else some ⟨b, off + (k + 1) * 3, none⟩)) := by
    have h := HQ3.out.drop hq1 (k + 1)
    unfold cutA at h
    unfold Hid
    by_cases hc : qc = k + 1
    · rw [if_pos hc] at h ⊢; exact h
    · rw [if_neg hc] at h ⊢
      simpa [Addr.add] using h
  clear hq3 ha3 hb2
  go_enter Try.func38, Try.ntmps38
  go_wp2
  rw [← hw2]
  clear hw2
  have r0 := fun p : LaterG LeB w2.drew => p.drewCell x0
  have i1 : (k : Int) ≤ (qc : Int) := by omega
  have i2 : (k : Int) + 1 ≤ (n.queue.length : Int) := by omega
  have i3 : (0 : Int) ≤ (k : Int) := by omega
  have i4 : (0 : Int) ≤ (k : Int) + 1 := by omega
  have i5 : ((k : Int) + 1).toNat = k + 1 := by omega
  have kw : IntKind.i64.wrap ((k : Int) + 1) = (k : Int) + 1 := IntWalk.i64_in _ (by omega)
  refine wp_region_grow [0, 1, 2, 3, 4, 5, 6, 7, 8, 9, 10] [11, 12] LeB (tbl [(10, RowF 3 RPk (GF F w2.heap.size) (n.queue.take k ++ n.queue.drop (k + 1)))]) (hvOf [(10, [])]) (by kernel_rfl) (by kernel_rfl) (by kernel_rfl) (lawful_cons (rowF_stable good_pk _ _) lawful_nil) (leB_refl _) ?_
  simp only [pickOps, List.getElem?_cons_zero, List.getElem?_cons_succ, List.map_cons, List.map_nil]
  repeat (refine wpG_step rfl (fun K hK => ?_); go_simp; refine hK _ ?_; clear hK K)
  refine wpG_heavy rfl rfl (fun q hq => ?_) (fun v10 => ?_)
  · obtain ⟨news, hS, hcl⟩ := Source.row' (P := Try.prog) (t := 22) (cap := qc - (k + 1)) good_pk (HXR.out.later good_pk q.below)
    have hS' : Source Try.prog 22 22 3 q.W (.slice (if qc = k + 1 then some ⟨b, off, none⟩ else some ⟨b, off + (k + 1) * 3, none⟩) (n.queue.length - (k + 1)) (qc - (k + 1))) (n.queue.drop (k + 1)).length news := by rw [HL2.out] at hS ⊢; exact hS
    exact grow_rows good_pk (by decide) (.tmp 9) (.tmp 14) rfl elemPk (l := n.queue.take k) (m := n.queue.drop (k + 1)) (some ⟨b, off, none⟩) k (by rw [HL1.out]; rfl) HL1.out.symm ((HQ3.out.later good_pk q.below).take k) (fun b hb => .inr (Nat.le_trans q.below.size hb)) _ news rfl hS' hcl B1.out B2.out
  simp only [Act.put, List.setIfInBounds_toArray, List.set_cons_zero, List.set_cons_succ]
  refine wpG_nil ?_
  intro q hf
  obtain ⟨ao', cap', hv, hc1, hc2, hrow⟩ : RowF 3 RPk (GF F w2.heap.size) (n.queue.take k ++ n.queue.drop (k + 1)) v10 q.W := hf 10 [] (by simp) rfl
  obtain ⟨L, hL⟩ : ∃ L, (n.queue.take k ++ n.queue.drop (k + 1)).length = L := ⟨_, rfl⟩
  rw [hL] at hv hc1
  subst hv
  have HL := Lib.hid hL
  clear hf r0 hc2 kw i5 i4 hL x0
  have HX3 := Lib.hid (HX2.out.below q.below)
  have HZ3 := Lib.hid (HZ2.out.below q.below)
  have HB3 := Lib.hid (HB2.out.trans (q.below.mono HB2.out.size))
  have HA4 := Lib.hid (HA3.out.later good_pr q.below)
  have HR4 := Lib.hid hrow
  have hfx := HX3.out.free 0
  have hcx := HX3.out.cell 0 rfl
  clear hrow
  obtain ⟨w3, W3by⟩ := q
  simp only at HX3 HZ3 HB3 HA4 HR4 hfx hcx ⊢
  have HX5 := Lib.hid (HX3.out.set 0 (.slice ao' L cap'))
  have HZ5 := Lib.hid (HZ3.out.other (b' := w.heap.size) (o := 0) (by omega) (.slice ao' L cap'))
  have a0 := HX5.out.cell 0 rfl
  have a1 := HX5.out.cell 1 rfl
  have b0 := HZ5.out.cell 0 rfl
  have b1 := HZ5.out.cell 1 rfl
  have fb0 := HZ5.out.free 0
  have fb1 := HZ5.out.free 1
  generalize (if qc = k + 1 then some (⟨b, off, none⟩ : Addr) else some ⟨b, off + (k + 1) * 3, none⟩) = xo at *
  go_wp2
  have B9 := ((HZ5.out.set 0 (.slice ao' L cap')).set 1 (.slice aa n.apart.length ac))
  have hs2 := HSZ.out
  have hk2 : ∀ b, GF F w2.heap.size b → (((w3.setCell ⟨w.heap.size, 0, none⟩ (.slice ao' L cap')).setCell ⟨w.heap.size + 1, 0, none⟩ (.slice ao' L cap')).setCell ⟨w.heap.size + 1, 1, none⟩ (.slice aa n.apart.length ac)).heap[b]? = w3.heap[b]? := fun b hb => by
    have hb' : b < w.heap.size ∨ w2.heap.size ≤ b := hb.imp (HFL.out b) id
    rw [Below.heap_setCell _ _ _ _ (by show b ≠ w.heap.size + 1; omega), Below.heap_setCell _ _ _ _ (by show b ≠ w.heap.size + 1; omega), Below.heap_setCell _ _ _ _ (by show b ≠ w.heap.size; omega)]
  have hsz : w3.heap.size ≤ (((w3.setCell ⟨w.heap.size, 0, none⟩ (.slice ao' L cap')).setCell ⟨w.heap.size + 1, 0, none⟩ (.slice ao' L cap')).setCell ⟨w.heap.size + 1, 1, none⟩ (.slice aa n.apart.length ac)).heap.size := by simp [World.setCell]
  have hfr : ∀ b, InF (GF F w2.heap.size) w3 b → Fr F w (((w3.setCell ⟨w.heap.size, 0, none⟩ (.slice ao' L cap')).setCell ⟨w.heap.size + 1, 0, none⟩ (.slice ao' L cap')).setCell ⟨w.heap.size + 1, 1, none⟩ (.slice aa n.apart.length ac)) b := fun b hb => ⟨hb.1.imp id (fun h => by omega), Nat.lt_of_lt_of_le hb.2 hsz⟩
  have hq5 := HR4.out.keep good_pk hfr (fun b hb => hk2 b hb.1)
  have ha5 := HA4.out.keep good_pr hfr (fun b hb => hk2 b hb.1)
  refine bodyPost_ret (v := .agg #[.slice ao' L cap', .slice aa n.apart.length ac]) (by simp [results, Try.results38, go_sem, B9.cell 0 rfl, B9.cell 1 rfl]) rfl ?_
  have hmq : m.queue = n.queue.take k ++ n.queue.drop (k + 1) := by rw [HD.out]
  have hma : m.apart = n.apart := by rw [HD.out]
  have hll : m.queue.length = L := by rw [hmq, HL.out]
  have hl3 : L = k + (n.queue.length - (k + 1)) := by rw [← hll]; exact HDL.out
  refine ⟨ao', cap', aa, ac, by rw [hll, hma], ⟨ao', cap', aa, ac, by rw [hll, hma], by rw [hll]; exact hc1, by rw [hll]; omega, by rw [hmq]; exact hq5, by rw [hma]; exact ha1, by rw [hma]; exact ha2, by rw [hma]; exact ha5⟩, ?_⟩
  exact ((HB3.out.setCell (by simp) _).setCell (by simp) _).setCell (by simp) _
end Go.Proofs.Ytmlhpchabnajkaa
