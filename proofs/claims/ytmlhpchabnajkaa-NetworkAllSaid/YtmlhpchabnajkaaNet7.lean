/- network.Send -/
import Derived.Test.YtmlhpchabnajkaaNet6
import Derived.Test.YtmlhpchabnajkaaFull
namespace Go.Proofs.Ytmlhpchabnajkaa
set_option linter.unusedSimpArgs false
set_option linter.unusedVariables false
open Go.RowKit
attribute [local go_sem ↓] Go.wp_at_zero Go.wp_at_succ
attribute [local go_sem] gquiet gquietAt sameUpon growUpon leB_true
def PktRet (F : Nat → Prop) (p : Pkt) (err : Int) (w : World) (e : Ending) (w' : World) : Prop :=
  ∃ a cap, e = .returned (.tuple #[.agg #[.int .i64 p.src, .int .i64 p.dst, .slice a p.data.length cap], .int .i64 err]) ∧ RPk (Fr F w w') w' p [.int .i64 p.src, .int .i64 p.dst, .slice a p.data.length cap] ∧ Below w.heap.size w w'
def NetRet (F : Nat → Prop) (m : NetM) (err : Int) (w : World) (e : Ending) (w' : World) : Prop :=
  ∃ qa qc aa ac, e = .returned (.tuple #[.agg #[.slice qa m.queue.length qc, .slice aa m.apart.length ac], .int .i64 err]) ∧ RNet (Fr F w w') w' m [.slice qa m.queue.length qc, .slice aa m.apart.length ac] ∧ Below w.heap.size w w'
theorem rnet_nil (F : Nat → Prop) (w : World) : RNet F w .nil [.slice none 0 0, .slice none 0 0] :=
  ⟨none, 0, none, 0, rfl, Nat.le_refl _, by simp [NetM.nil], RRow.nil _, Nat.le_refl _, by simp [NetM.nil], RRow.nil _⟩
theorem rpk_nil (F : Nat → Prop) (w : World) : RPk F w .nil [.int .i64 0, .int .i64 0, .slice none 0 0] :=
  ⟨none, 0, rfl, by unfold i64R; simp [Pkt.nil], by unfold i64R; simp [Pkt.nil], Nat.le_refl _, by simp [Pkt.nil], RRow.nil _⟩
theorem infoPk : (Try.prog.info? 28).map (fun i => (i.zero, i.size, i.bytes)) = some (some (.agg #[.int .i64 0, .int .i64 0, .slice none 0 0]), 3, 40) := by kernel_rfl
theorem elemPk : Elem Try.prog 22 28 (.agg #[.int .i64 0, .int .i64 0, .slice none 0 0]) 3 40 := ⟨Try.underlying22, infoPk, rfl, by decide, fun h => by cases h⟩
theorem sendE_cases (n : NetM) (p : Pkt) : (chk n ≠ 0 ∧ sendE n p = 60) ∨ (chk n = 0 ∧ pktB p = false ∧ sendE n p = 60) ∨ (chk n = 0 ∧ pktB p = true ∧ n.queue.length = 4096 ∧ sendE n p = 2) ∨ (chk n = 0 ∧ pktB p = true ∧ n.queue.length < 4096 ∧ sendE n p = 0) := by
  unfold sendE chk
  cases h : netB n
  · left; simp
  · right
    cases hp : pktB p
    · left; simp
    · right
      have hl : n.queue.length ≤ 4096 := by
        unfold netB at h
        simp only [Bool.and_eq_true, decide_eq_true_eq] at h
        exact h.1.1
      by_cases h4 : n.queue.length = 4096
      · left; simp [h4]
      · right; simp [h4]; omega
/-- a kind of blocks, or beyond some -/
def GF (F : Nat → Prop) (B : Nat) : Nat → Prop := fun b => F b ∨ B ≤ b
theorem sendN_err {n : NetM} {p : Pkt} (h : sendE n p ≠ 0) : sendN n p = .nil := by unfold sendN; rw [if_neg h]
theorem sendN_ok {n : NetM} {p : Pkt} (h : sendE n p = 0) : sendN n p = ⟨n.queue ++ [p], n.apart⟩ := by unfold sendN; rw [if_pos h]
set_option maxRecDepth 100000 in
set_option maxHeartbeats 3000000 in
theorem send_any (n : NetM) (p : Pkt) (qa : Option Addr) (qc : Nat) (aa : Option Addr) (ac : Nat) (da : Option Addr) (dc : Nat) (w : World) (F : Nat → Prop) (hF : ∀ b, F b → b < w.heap.size) (hr : RNet F w n [.slice qa n.queue.length qc, .slice aa n.apart.length ac]) (hp : RPk F w p [.int .i64 p.src, .int .i64 p.dst, .slice da p.data.length dc]) :
    Calls Try.prog 11 #[.agg #[.slice qa n.queue.length qc, .slice aa n.apart.length ac], .agg #[.int .i64 p.src, .int .i64 p.dst, .slice da p.data.length dc]] w (NetRet F (sendN n p) (sendE n p) w) := by
  have HFL := Lib.hid hF
  clear hF
  have HR := Lib.hid hr
  have HP := Lib.hid hp
  have hlen : p.data.length ≤ 140737488351232 := by obtain ⟨_, _, _, _, _, _, h, _⟩ := hp; exact h
  clear hr hp
  have HK := Lib.hid (sendE_cases n p)
  have HE := Lib.hid (sendN_err (n := n) (p := p))
  have HO := Lib.hid (sendN_ok (n := n) (p := p))
  generalize sendE n p = er at *
  generalize sendN n p = m at *
  have hb0 : Below w.heap.size w (((w.alloc (.cells #[.slice qa n.queue.length qc, .slice aa n.apart.length ac] 25)).alloc (.cells #[.int .i64 p.src, .int .i64 p.dst, .slice da p.data.length dc] 28)).alloc (.cells #[.slice none 0 0, .slice none 0 0] 25)) := ((below_new _ _).alloc (by simp) _).alloc (by simp; omega) _
  have HB0 := Lib.hid hb0
  clear hb0
  go_enter Try.func11, Try.ntmps11
  go_wp2_with fail
  refine (check_any n qa qc aa ac _ (good_net.below HB0.out (good_net.toNow HFL.out HR.out))).mono ?_
  rintro e w1 ⟨rfl, hb1⟩
  have BX : Box w1 w.heap.size #[.slice qa n.queue.length qc, .slice aa n.apart.length ac] 25 := (((Box.new w _ _).alloc _).alloc _).below hb1
  have BY : Box w1 (w.heap.size + 1) #[.int .i64 p.src, .int .i64 p.dst, .slice da p.data.length dc] 28 := by
    have h := ((Box.new (w.alloc (.cells #[.slice qa n.queue.length qc, .slice aa n.apart.length ac] 25)) #[.int .i64 p.src, .int .i64 p.dst, .slice da p.data.length dc] 28).alloc (.cells #[.slice none 0 0, .slice none 0 0] 25)).below hb1
    simpa using h
  have BZ : Box w1 (w.heap.size + 1 + 1) #[.slice none 0 0, .slice none 0 0] 25 := by
    have h := (Box.new ((w.alloc (.cells #[.slice qa n.queue.length qc, .slice aa n.apart.length ac] 25)).alloc (.cells #[.int .i64 p.src, .int .i64 p.dst, .slice da p.data.length dc] 28)) #[.slice none 0 0, .slice none 0 0] 25).below hb1
    simpa using h
  have HB1 := Lib.hid (HB0.out.trans (hb1.mono (by simp; omega)))
  clear hb1
  have HX := Lib.hid BX
  have HY := Lib.hid BY
  have HZ := Lib.hid BZ
  have x0 := BX.cell 0 rfl
  have x1 := BX.cell 1 rfl
  have y0 := BY.cell 0 rfl
  have y1 := BY.cell 1 rfl
  have y2 := BY.cell 2 rfl
  have z0 := BZ.cell 0 rfl
  have z1 := BZ.cell 1 rfl
  have fz0 := BZ.free 0
  have fz1 := BZ.free 1
  clear BX BY BZ
  have key := HK.out
  clear HK
  generalize chk n = c at *
  rcases key with ⟨h1, h2⟩ | ⟨h1, h2, h3⟩ | ⟨h1, h2, h3, h4⟩ | ⟨h1, h2, h3, h4⟩
  · subst h2
    have hm := HE.out (by decide)
    subst hm
    go_wp2
    have B2 := ((HZ.out.set 0 (.slice none 0 0)).set 1 (.slice none 0 0))
    refine bodyPost_ret (v := .tuple #[.agg #[.slice none 0 0, .slice none 0 0], .int .i64 60]) (by simp [results, Try.results11, go_sem, B2.cell 0 rfl, B2.cell 1 rfl]) rfl ⟨none, 0, none, 0, rfl, rnet_nil _ _, (HB1.out.setCell (by simp; omega) _).setCell (by simp; omega) _⟩
  · subst h1 h3
    have hm := HE.out (by decide)
    subst hm
    go_wp2_with fail
    refine (packet_any p da dc _ hlen).mono ?_
    rw [h2]
    rintro e w2 ⟨rfl, hb2⟩
    have z0' := below_cell hb2 z0
    have z1' := below_cell hb2 z1
    have fz0' := below_free hb2 z0 fz0
    have fz1' := below_free hb2 z1 fz1
    have HB2 := Lib.hid (HB1.out.trans (hb2.mono HB1.out.size))
    have HZ2 := Lib.hid (HZ.out.below hb2)
    clear hb2 x0 x1 y0 y1 y2 z0 z1 fz0 fz1
    go_wp2
    have B2 := ((HZ2.out.set 0 (.slice none 0 0)).set 1 (.slice none 0 0))
    refine bodyPost_ret (v := .tuple #[.agg #[.slice none 0 0, .slice none 0 0], .int .i64 60]) (by simp [results, Try.results11, go_sem, B2.cell 0 rfl, B2.cell 1 rfl]) rfl ⟨none, 0, none, 0, rfl, rnet_nil _ _, (HB2.out.setCell (by simp; omega) _).setCell (by simp; omega) _⟩
  · subst h1 h4
    have hm := HE.out (by decide)
    subst hm
    go_wp2_with fail
    refine (packet_any p da dc _ hlen).mono ?_
    rw [h2]
    rintro e w2 ⟨rfl, hb2⟩
    have x0' := below_cell hb2 x0
    have z0' := below_cell hb2 z0
    have z1' := below_cell hb2 z1
    have fz0' := below_free hb2 z0 fz0
    have fz1' := below_free hb2 z1 fz1
    have HB2 := Lib.hid (HB1.out.trans (hb2.mono HB1.out.size))
    have HZ2 := Lib.hid (HZ.out.below hb2)
    clear hb2 x0 x1 y0 y1 y2 z0 z1 fz0 fz1
    rw [h3] at x0'
    have hl : ((4096 : Nat) : Int) = 4096 := rfl
    go_wp2
    have B2 := ((HZ2.out.set 0 (.slice none 0 0)).set 1 (.slice none 0 0))
    refine bodyPost_ret (v := .tuple #[.agg #[.slice none 0 0, .slice none 0 0], .int .i64 2]) (by simp [results, Try.results11, go_sem, B2.cell 0 rfl, B2.cell 1 rfl]) rfl ⟨none, 0, none, 0, rfl, rnet_nil _ _, (HB2.out.setCell (by simp; omega) _).setCell (by simp; omega) _⟩
  · subst h1 h4
    have hm := HO.out rfl
    subst hm
    have hq4 : ((n.queue.length : Int) == 4096) = false := by simp; omega
    have hq5 : (n.queue.length == 4096) = false := by simp; omega
    go_wp2_with fail
    refine (packet_any p da dc _ hlen).mono ?_
    rw [h2]
    rintro e w2 ⟨rfl, hb2⟩
    have x0' := below_cell hb2 x0
    have x1' := below_cell hb2 x1
    have y0' := below_cell hb2 y0
    have y1' := below_cell hb2 y1
    have y2' := below_cell hb2 y2
    have HB2 := Lib.hid (HB1.out.trans (hb2.mono HB1.out.size))
    have HX2 := Lib.hid (HX.out.below hb2)
    have HY2 := Lib.hid (HY.out.below hb2)
    have HZ2 := Lib.hid (HZ.out.below hb2)
    have fx0' := HX2.out.free 0
    clear hb2 x0 x1 y0 y1 y2 z0 z1 fz0 fz1 HX HY HZ HB1
    obtain ⟨_, _, _, _, e, hq1, hq2, hq3, ha1, ha2, ha3⟩ := HR.out
    cases e
    have HSZ : Hid (w.heap.size + 1 + 1 < w2.heap.size) := HZ2.out.lt
    have HF : Hid (∀ b, F b → GF F w2.heap.size b) := fun b hb => .inl hb
    have HQ3 := Lib.hid (RRow.inF good_pk HFL.out HF.out HB2.out hq3)
    have HA3 := Lib.hid (RRow.inF good_pr HFL.out HF.out HB2.out ha3)
    have B1 : Hid (n.queue.length + 1 ≤ maxLen) := maxLen_le (by omega)
    have B2 : Hid ((n.queue.length + 1) * 40 ≤ 140737488355328) := by unfold Hid; omega
    have HPK := Lib.hid (good_pk.inF HFL.out HF.out HB2.out HP.out)
    clear hq3 ha3
    go_wp2
    have r0 := fun p : LaterG LeB w2.drew => p.drewCell x0'
    have r1 := fun p : LaterG LeB w2.drew => p.drewCell y0'
    have r2 := fun p : LaterG LeB w2.drew => p.drewCell y1'
    have r3 := fun p : LaterG LeB w2.drew => p.drewCell y2'
    refine wp_region_grow [0, 1, 2, 3, 4, 5, 6, 7, 8, 9, 10, 11, 12] [13] LeB (tbl [(10, OneAt #[.int .i64 p.src, .int .i64 p.dst, .slice da p.data.length dc] 28 1), (11, RowF 3 RPk (GF F w2.heap.size) (n.queue ++ [p]))]) (hvOf [(10, []), (11, [10])]) (by kernel_rfl) (by kernel_rfl) (by kernel_rfl) (lawful_cons (oneAt_stable _ _ _) (lawful_cons (rowF_stable good_pk _ _) lawful_nil)) (leB_refl _) ?_
    simp only [pickOps, List.getElem?_cons_zero, List.getElem?_cons_succ, List.map_cons, List.map_nil]
    repeat (refine wpG_step rfl (fun K hK => ?_); go_simp; refine hK _ ?_; clear hK K)
    refine wpG_heavy rfl rfl (fun q _ => ?_) (fun v10 => ?_)
    · go_simp
      exact ⟨below_new _ _, oneAt_new _ _ _ _⟩
    simp only [Act.put, List.setIfInBounds_toArray, List.set_cons_zero, List.set_cons_succ]
    refine wpG_heavy rfl rfl (fun q hq => ?_) (fun v11 => ?_)
    · have h10 : OneAt #[.int .i64 p.src, .int .i64 p.dst, .slice da p.data.length dc] 28 1 v10 q.W := hq 10 (by simp)
      exact grow_rows good_pk (by decide) (.tmp 28) (.tmp 30) rfl elemPk (l := n.queue) (m := [p]) qa n.queue.length rfl rfl (HQ3.out.later good_pk q.below) (fun b hb => .inr (Nat.le_trans q.below.size hb)) v10 _ rfl (h10.source rfl (by simp [Value.oneCell'])) (CellsL.single (good_pk.keep (inF_below q.below).1 (inF_below q.below).2 HPK.out)) B1.out B2.out
    simp only [Act.put, List.setIfInBounds_toArray, List.set_cons_zero, List.set_cons_succ]
    repeat (refine wpG_step rfl (fun K hK => ?_); go_simp; refine hK _ ?_; clear hK K)
    refine wpG_nil ?_
    intro q hf
    obtain ⟨ao', cap', hv, hc1, hc2, hrow⟩ : RowF 3 RPk (GF F w2.heap.size) (n.queue ++ [p]) v11 q.W := hf 11 [10] (by simp) rfl
    rw [List.length_append, List.length_singleton] at hv hc1
    subst hv
    clear hf r0 r1 r2 r3 hc2
    have HX3 := Lib.hid (HX2.out.below q.below)
    have HZ3 := Lib.hid (HZ2.out.below q.below)
    have HB3 := Lib.hid (HB2.out.trans (q.below.mono HB2.out.size))
    have HA4 := Lib.hid (HA3.out.later good_pr q.below)
    have HR4 := Lib.hid hrow
    have hfx := HX3.out.free 0
    have hcx := HX3.out.cell 0 rfl
    clear x0' x1' y0' y1' y2' fx0' hrow
    obtain ⟨w3, W3by⟩ := q
    simp only at HX3 HZ3 HB3 HA4 HR4 hfx hcx ⊢
    have HX5 := Lib.hid (HX3.out.set 0 (.slice ao' (n.queue.length + 1) cap'))
    have HZ5 := Lib.hid (HZ3.out.other (b' := w.heap.size) (o := 0) (by omega) (.slice ao' (n.queue.length + 1) cap'))
    have a0 := HX5.out.cell 0 rfl
    have a1 := HX5.out.cell 1 rfl
    have b0 := HZ5.out.cell 0 rfl
    have b1 := HZ5.out.cell 1 rfl
    have fb0 := HZ5.out.free 0
    have fb1 := HZ5.out.free 1
    go_wp2
    have B9 := ((HZ5.out.set 0 (.slice ao' (n.queue.length + 1) cap')).set 1 (.slice aa n.apart.length ac))
    have hs2 := HSZ.out
    have hk : ∀ b, GF F w2.heap.size b → (((w3.setCell ⟨w.heap.size, 0, none⟩ (.slice ao' (n.queue.length + 1) cap')).setCell ⟨w.heap.size + 1 + 1, 0, none⟩ (.slice ao' (n.queue.length + 1) cap')).setCell ⟨w.heap.size + 1 + 1, 1, none⟩ (.slice aa n.apart.length ac)).heap[b]? = w3.heap[b]? := fun b hb => by
      have hb' : b < w.heap.size ∨ w2.heap.size ≤ b := hb.imp (HFL.out b) id
      rw [Below.heap_setCell _ _ _ _ (by show b ≠ w.heap.size + 1 + 1; omega), Below.heap_setCell _ _ _ _ (by show b ≠ w.heap.size + 1 + 1; omega), Below.heap_setCell _ _ _ _ (by show b ≠ w.heap.size; omega)]
    have hsz : w3.heap.size ≤ (((w3.setCell ⟨w.heap.size, 0, none⟩ (.slice ao' (n.queue.length + 1) cap')).setCell ⟨w.heap.size + 1 + 1, 0, none⟩ (.slice ao' (n.queue.length + 1) cap')).setCell ⟨w.heap.size + 1 + 1, 1, none⟩ (.slice aa n.apart.length ac)).heap.size := by simp [World.setCell]
    have hfr : ∀ b, InF (GF F w2.heap.size) w3 b → Fr F w (((w3.setCell ⟨w.heap.size, 0, none⟩ (.slice ao' (n.queue.length + 1) cap')).setCell ⟨w.heap.size + 1 + 1, 0, none⟩ (.slice ao' (n.queue.length + 1) cap')).setCell ⟨w.heap.size + 1 + 1, 1, none⟩ (.slice aa n.apart.length ac)) b := fun b hb => ⟨hb.1.imp id (fun h => by omega), Nat.lt_of_lt_of_le hb.2 hsz⟩
    have hq5 := HR4.out.keep good_pk hfr (fun b hb => hk b hb.1)
    have ha5 := HA4.out.keep good_pr hfr (fun b hb => hk b hb.1)
    refine bodyPost_ret (v := .tuple #[.agg #[.slice ao' (n.queue.length + 1) cap', .slice aa n.apart.length ac], .int .i64 0]) (by simp [results, Try.results11, go_sem, B9.cell 0 rfl, B9.cell 1 rfl]) rfl ?_
    refine ⟨ao', cap', aa, ac, by simp, ⟨ao', cap', aa, ac, by simp, by simp; omega, by simp; omega, hq5, ha1, ha2, ha5⟩, ?_⟩
    exact ((HB3.out.setCell (by simp) _).setCell (by simp; omega) _).setCell (by simp; omega) _
end Go.Proofs.Ytmlhpchabnajkaa
