/- the reference's Send -/
import Derived.Test.YtmlhpchabnajkaaNet7
namespace Go.Proofs.Ytmlhpchabnajkaa
set_option linter.unusedSimpArgs false
set_option linter.unusedVariables false
open Go.RowKit
attribute [local go_sem ↓] Go.wp_at_zero Go.wp_at_succ
attribute [local go_sem] gquiet gquietAt sameUpon growUpon leB_true
set_option maxRecDepth 100000 in
set_option maxHeartbeats 3000000 in
theorem rsend_any (n : NetM) (p : Pkt) (qa : Option Addr) (qc : Nat) (aa : Option Addr) (ac : Nat) (da : Option Addr) (dc : Nat) (w : World) (F : Nat → Prop) (hF : ∀ b, F b → b < w.heap.size) (hr : RNet F w n [.slice qa n.queue.length qc, .slice aa n.apart.length ac]) (hp : RPk F w p [.int .i64 p.src, .int .i64 p.dst, .slice da p.data.length dc]) :
    Calls Try.prog 12 #[.agg #[.slice qa n.queue.length qc, .slice aa n.apart.length ac], .agg #[.int .i64 p.src, .int .i64 p.dst, .slice da p.data.length dc]] w (NetRet F (sendN n p) (sendE n p) w) := by
  have HFL := Lib.hid hF
  clear hF
  have HR := Lib.hid hr
  have HP := Lib.hid hp
  have hlen : p.data.length ≤ 140737488351232 := by obtain ⟨_, _, _, _, _, _, h, _⟩ := hp; exact h
  clear hr hp
  have HK := Lib.hid (sendE_cases n p)
  have HE := Lib.hid (sendN_err (n := n) (p := p))
  have HO := Lib.hid (sendN_ok (n := n) (p := p))
  generalize sendE n p = er at *
  generalize sendN n p = m at *
  have hb0 : Below w.heap.size w (((w.alloc (.cells #[.slice qa n.queue.length qc, .slice aa n.apart.length ac] 25)).alloc (.cells #[.int .i64 p.src, .int .i64 p.dst, .slice da p.data.length dc] 28)).alloc (.cells #[.slice none 0 0, .slice none 0 0] 25)) := ((below_new _ _).alloc (by simp) _).alloc (by simp; omega) _
  have HB0 := Lib.hid hb0
  clear hb0
  go_enter Try.func12, Try.ntmps12
  go_wp2_with fail
  refine (rcheck_any n qa qc aa ac _ (good_net.below HB0.out (good_net.toNow HFL.out HR.out))).mono ?_
  rintro e w1 ⟨rfl, hb1⟩
  have BX : Box w1 w.heap.size #[.slice qa n.queue.length qc, .slice aa n.apart.length ac] 25 := (((Box.new w _ _).alloc _).alloc _).below hb1
  have BY : Box w1 (w.heap.size + 1) #[.int .i64 p.src, .int .i64 p.dst, .slice da p.data.length dc] 28 := by
    have h := ((Box.new (w.alloc (.cells #[.slice qa n.queue.length qc, .slice aa n.apart.length ac] 25)) #[.int .i64 p.src, .int .i64 p.dst, .slice da p.data.length dc] 28).alloc (.cells #[.slice none 0 0, .slice none 0 0] 25)).below hb1
    simpa using h
  have BZ : Box w1 (w.heap.size + 1 + 1) #[.slice none 0 0, .slice none 0 0] 25 := by
    have h := (Box.new ((w.alloc (.cells #[.slice qa n.queue.length qc, .slice aa n.apart.length ac] 25)).alloc (.cells #[.int .i64 p.src, .int .i64 p.dst, .slice da p.data.length dc] 28)) #[.slice none 0 0, .slice none 0 0] 25).below hb1
    simpa using h
  have HB1 := Lib.hid (HB0.out.trans (hb1.mono (by simp; omega)))
  clear hb1
  have HX := Lib.hid BX
  have HY := Lib.hid BY
  have HZ := Lib.hid BZ
  have x0 := BX.cell 0 rfl
  have x1 := BX.cell 1 rfl
  have y0 := BY.cell 0 rfl
  have y1 := BY.cell 1 rfl
  have y2 := BY.cell 2 rfl
  have z0 := BZ.cell 0 rfl
  have z1 := BZ.cell 1 rfl
  have fz0 := BZ.free 0
  have fz1 := BZ.free 1
  clear BX BY BZ
  have key := HK.out
  clear HK
  generalize chk n = c at *
  rcases key with ⟨h1, h2⟩ | ⟨h1, h2, h3⟩ | ⟨h1, h2, h3, h4⟩ | ⟨h1, h2, h3, h4⟩
  · subst h2
    have hm := HE.out (by decide)
    subst hm
    go_wp2
    have B2 := ((HZ.out.set 0 (.slice none 0 0)).set 1 (.slice none 0 0))
    refine bodyPost_ret (v := .tuple #[.agg #[.slice none 0 0, .slice none 0 0], .int .i64 60]) (by simp [results, Try.results12, go_sem, B2.cell 0 rfl, B2.cell 1 rfl]) rfl ⟨none, 0, none, 0, rfl, rnet_nil _ _, (HB1.out.setCell (by simp; omega) _).setCell (by simp; omega) _⟩
  · subst h1 h3
    have hm := HE.out (by decide)
    subst hm
    go_wp2_with fail
    refine (rpacket_any p da dc _ hlen).mono ?_
    rw [h2]
    rintro e w2 ⟨rfl, hb2⟩
    have z0' := below_cell hb2 z0
    have z1' := below_cell hb2 z1
    have fz0' := below_free hb2 z0 fz0
    have fz1' := below_free hb2 z1 fz1
    have HB2 := Lib.hid (HB1.out.trans (hb2.mono HB1.out.size))
    have HZ2 := Lib.hid (HZ.out.below hb2)
    clear hb2 x0 x1 y0 y1 y2 z0 z1 fz0 fz1
    go_wp2
    have B2 := ((HZ2.out.set 0 (.slice none 0 0)).set 1 (.slice none 0 0))
    refine bodyPost_ret (v := .tuple #[.agg #[.slice none 0 0, .slice none 0 0], .int .i64 60]) (by simp [results, Try.results12, go_sem, B2.cell 0 rfl, B2.cell 1 rfl]) rfl ⟨none, 0, none, 0, rfl, rnet_nil _ _, (HB2.out.setCell (by simp; omega) _).setCell (by simp; omega) _⟩
  · subst h1 h4
    have hm := HE.out (by decide)
    subst hm
    go_wp2_with fail
    refine (rpacket_any p da dc _ hlen).mono ?_
    rw [h2]
    rintro e w2 ⟨rfl, hb2⟩
    have x0' := below_cell hb2 x0
    have z0' := below_cell hb2 z0
    have z1' := below_cell hb2 z1
    have fz0' := below_free hb2 z0 fz0
    have fz1' := below_free hb2 z1 fz1
    have HB2 := Lib.hid (HB1.out.trans (hb2.mono HB1.out.size))
    have HZ2 := Lib.hid (HZ.out.below hb2)
    clear hb2 x0 x1 y0 y1 y2 z0 z1 fz0 fz1
    rw [h3] at x0'
    have hl : ((4096 : Nat) : Int) = 4096 := rfl
    go_wp2
    have B2 := ((HZ2.out.set 0 (.slice none 0 0)).set 1 (.slice none 0 0))
    refine bodyPost_ret (v := .tuple #[.agg #[.slice none 0 0, .slice none 0 0], .int .i64 2]) (by simp [results, Try.results12, go_sem, B2.cell 0 rfl, B2.cell 1 rfl]) rfl ⟨none, 0, none, 0, rfl, rnet_nil _ _, (HB2.out.setCell (by simp; omega) _).setCell (by simp; omega) _⟩
  · subst h1 h4
    have hm := HO.out rfl
    subst hm
    have hq4 : ((n.queue.length : Int) == 4096) = false := by simp; omega
    have hq5 : (n.queue.length == 4096) = false := by simp; omega
    go_wp2_with fail
    refine (rpacket_any p da dc _ hlen).mono ?_
    rw [h2]
    rintro e w2 ⟨rfl, hb2⟩
    have x0' := below_cell hb2 x0
    have x1' := below_cell hb2 x1
    have y0' := below_cell hb2 y0
    have y1' := below_cell hb2 y1
    have y2' := below_cell hb2 y2
    have HB2 := Lib.hid (HB1.out.trans (hb2.mono HB1.out.size))
    have HX2 := Lib.hid (HX.out.below hb2)
    have HY2 := Lib.hid (HY.out.below hb2)
    have HZ2 := Lib.hid (HZ.out.below hb2)
    have fx0' := HX2.out.free 0
    clear hb2 x0 x1 y0 y1 y2 z0 z1 fz0 fz1 HX HY HZ HB1
    obtain ⟨_, _, _, _, e, hq1, hq2, hq3, ha1, ha2, ha3⟩ := HR.out
    cases e
    have HQ3 := Lib.hid hq3
    have HA3 := Lib.hid ha3
    have B1 : Hid (n.queue.length ≤ maxLen) := maxLen_le (by omega)
    have B2 : Hid (n.queue.length * 40 ≤ 140737488355328) := by unfold Hid; omega
    have B3 : Hid (n.queue.length + 1 ≤ maxLen) := maxLen_le (by omega)
    have B4 : Hid ((n.queue.length + 1) * 40 ≤ 140737488355328) := by unfold Hid; omega
    have HSZ : Hid (w.heap.size + 1 + 1 < w2.heap.size) := HZ2.out.lt
    clear hq3 ha3
    go_wp2
    have r0 := fun p : LaterG LeB w2.drew => p.drewCell x0'
    have r1 := fun p : LaterG LeB w2.drew => p.drewCell y0'
    have r2 := fun p : LaterG LeB w2.drew => p.drewCell y1'
    have r3 := fun p : LaterG LeB w2.drew => p.drewCell y2'
    refine wp_region_grow [0, 1, 2, 3, 4, 5] [6, 7, 8] LeB (tbl [(0, NoneAt 28 w2.heap.size), (3, OwnN RPk 3 28 w2.heap.size F n.queue), (5, OneAt #[.int .i64 p.src, .int .i64 p.dst, .slice da p.data.length dc] 28 1)]) (hvOf [(0, []), (3, [0]), (5, [])]) (by kernel_rfl) (by kernel_rfl) (by kernel_rfl) (lawful_cons (noneAt_stable _ _) (lawful_cons (ownN_stable good_pk _ _ _ _) (lawful_cons (oneAt_stable _ _ _) lawful_nil))) (leB_refl _) ?_
    simp only [pickOps, List.getElem?_cons_zero, List.getElem?_cons_succ, List.map_cons, List.map_nil]
    refine wpG_heavy rfl rfl (fun q _ => ?_) (fun v0 => ?_)
    · go_simp
      exact ⟨below_new _ _, q.W.heap.size, rfl, q.below.size, Box.new _ _ _⟩
    simp only [Act.put, List.setIfInBounds_toArray, List.set_cons_zero, List.set_cons_succ]
    repeat (refine wpG_step rfl (fun K hK => ?_); go_simp; refine hK _ ?_; clear hK K)
    refine wpG_heavy rfl rfl (fun q hq => ?_) (fun v3 => ?_)
    · have h0 : NoneAt 28 w2.heap.size v0 q.W := hq 0 (by simp)
      have hbq : Below w.heap.size w q.W := HB2.out.trans (q.below.mono HB2.out.size)
      have hrq : RRow 3 RPk F q.W n.queue qa := HQ3.out.keep good_pk (fun _ h => h) (fun b h => hbq.block b (HFL.out b h))
      obtain ⟨news, hS, hcl⟩ := Source.row' (P := Try.prog) (t := 22) (cap := qc) good_pk hrq
      exact grow_empty good_pk (.tmp 20) (.tmp 22) rfl elemPk v0 rfl h0 q.below.size (fun b hb => by have := HFL.out b hb; have := HSZ.out; omega) _ news rfl hS hcl B1.out B2.out
    simp only [Act.put, List.setIfInBounds_toArray, List.set_cons_zero, List.set_cons_succ]
    repeat (refine wpG_step rfl (fun K hK => ?_); go_simp; refine hK _ ?_; clear hK K)
    refine wpG_heavy rfl rfl (fun q _ => ?_) (fun v5 => ?_)
    · go_simp
      exact ⟨below_new _ _, oneAt_new _ _ _ _⟩
    simp only [Act.put, List.setIfInBounds_toArray, List.set_cons_zero, List.set_cons_succ]
    repeat (refine wpG_step rfl (fun K hK => ?_); go_simp; refine hK _ ?_; clear hK K)
    refine wpG_nil ?_
    intro q hf
    obtain ⟨hN, hFB, xs, ho3, hc3⟩ : OwnN RPk 3 28 w2.heap.size F n.queue v3 q.W := hf 3 [0] (by simp) rfl
    have h5 : OneAt #[.int .i64 p.src, .int .i64 p.dst, .slice da p.data.length dc] 28 1 v5 q.W := hf 5 [] (by simp) rfl
    have hbq : Below w.heap.size w q.W := HB2.out.trans (q.below.mono HB2.out.size)
    have hpk : RPk F q.W p [.int .i64 p.src, .int .i64 p.dst, .slice da p.data.length dc] := good_pk.keep (fun _ h => h) (fun b h => hbq.block b (HFL.out b h)) HP.out
    have HS5 : Hid (Source Try.prog 22 22 3 q.W v5 1 [.int .i64 p.src, .int .i64 p.dst, .slice da p.data.length dc]) := h5.source rfl (by simp [Value.oneCell'])
    have HGR : Hid (∀ v' W', Grew w2.heap.size 28 3 q.W v3 v' (n.queue.length + 1) (xs ++ [.int .i64 p.src, .int .i64 p.dst, .slice da p.data.length dc]) W' → OwnN RPk 3 28 w2.heap.size F (n.queue ++ [p]) v' W' ∧ Below w2.heap.size w2 W') := fun v' W' hg =>
      ⟨OwnN.grew good_pk hN hFB ho3 hc3 (CellsL.single hpk) hg, q.below.trans (hg.below q.below.size (fun g e => (ho3.lt g e).1))⟩
    have HO3 := Lib.hid ho3
    have hszq : w2.heap.size ≤ q.W.heap.size := q.below.size
    clear hf r0 r1 r2 r3 ho3 hc3 h5 hpk hN
    obtain ⟨w3, W3by⟩ := q
    simp only at HS5 HGR HO3 hszq hbq ⊢
    have HBQ := Lib.hid hbq
    clear x0' x1' y0' y1' y2' fx0' hbq
    go_wp2_with (at_builtin; refine wpList_app rfl _ _ rfl elemPk w2.heap.size _ _ _ rfl HO3.out _ 1 _ rfl HS5.out (.inl rfl) B3.out B4.out hszq ?_; intro v6 w4 hg6; obtain ⟨hown6, hb6⟩ := HGR.out v6 w4 hg6; clear hg6; have HX4 := Lib.hid (HX2.out.below hb6); have HZ4 := Lib.hid (HZ2.out.below hb6); have HB4 := Lib.hid (HB2.out.trans (hb6.mono HB2.out.size)); obtain ⟨ao', cap', hv', hc1, hrow⟩ := hown6.row good_pk; rw [List.length_append, List.length_singleton] at hv' hc1; subst hv'; have HRW := Lib.hid hrow; clear hrow hown6 hb6; have hfx := HX4.out.free 0; have hcx := HX4.out.cell 0 rfl; have HX5 := Lib.hid (HX4.out.set 0 (.slice ao' (n.queue.length + 1) cap')); have HZ5 := Lib.hid (HZ4.out.other (b' := w.heap.size) (o := 0) (by omega) (.slice ao' (n.queue.length + 1) cap')); have a0 := HX5.out.cell 0 rfl; have a1 := HX5.out.cell 1 rfl; have b0 := HZ5.out.cell 0 rfl; have b1 := HZ5.out.cell 1 rfl; have fb0 := HZ5.out.free 0; have fb1 := HZ5.out.free 1)
    have B9 := ((HZ5.out.set 0 (.slice ao' (n.queue.length + 1) cap')).set 1 (.slice aa n.apart.length ac))
    have hs2 := HSZ.out
    have hk : ∀ b, GF F w2.heap.size b → (((w4.setCell ⟨w.heap.size, 0, none⟩ (.slice ao' (n.queue.length + 1) cap')).setCell ⟨w.heap.size + 1 + 1, 0, none⟩ (.slice ao' (n.queue.length + 1) cap')).setCell ⟨w.heap.size + 1 + 1, 1, none⟩ (.slice aa n.apart.length ac)).heap[b]? = w4.heap[b]? := fun b hb => by
      have hb' : b < w.heap.size ∨ w2.heap.size ≤ b := hb.imp (HFL.out b) id
      rw [Below.heap_setCell _ _ _ _ (by show b ≠ w.heap.size + 1 + 1; omega), Below.heap_setCell _ _ _ _ (by show b ≠ w.heap.size + 1 + 1; omega), Below.heap_setCell _ _ _ _ (by show b ≠ w.heap.size; omega)]
    have hsz : w4.heap.size ≤ (((w4.setCell ⟨w.heap.size, 0, none⟩ (.slice ao' (n.queue.length + 1) cap')).setCell ⟨w.heap.size + 1 + 1, 0, none⟩ (.slice ao' (n.queue.length + 1) cap')).setCell ⟨w.heap.size + 1 + 1, 1, none⟩ (.slice aa n.apart.length ac)).heap.size := by simp [World.setCell]
    have hfr : ∀ b, b < w4.heap.size ∧ (F b ∨ w2.heap.size ≤ b) → Fr F w (((w4.setCell ⟨w.heap.size, 0, none⟩ (.slice ao' (n.queue.length + 1) cap')).setCell ⟨w.heap.size + 1 + 1, 0, none⟩ (.slice ao' (n.queue.length + 1) cap')).setCell ⟨w.heap.size + 1 + 1, 1, none⟩ (.slice aa n.apart.length ac)) b := fun b hb => ⟨hb.2.imp id (fun h => by omega), Nat.lt_of_lt_of_le hb.1 hsz⟩
    have hq5 := HRW.out.keep good_pk hfr (fun b hb => hk b hb.2)
    have ha5 := (good_row_same good_pr HFL.out HB4.out HA3.out).keep good_pr (fun b hb => hfr b ⟨Nat.lt_of_lt_of_le (HFL.out b hb) HB4.out.size, .inl hb⟩) (fun b hb => hk b (.inl hb))
    refine bodyPost_ret (v := .tuple #[.agg #[.slice ao' (n.queue.length + 1) cap', .slice aa n.apart.length ac], .int .i64 0]) (by simp [results, Try.results12, go_sem, B9.cell 0 rfl, B9.cell 1 rfl]) rfl ?_
    refine ⟨ao', cap', aa, ac, by simp, ⟨ao', cap', aa, ac, by simp, by simp; omega, by simp; omega, hq5, ha1, ha2, ha5⟩, ?_⟩
    exact ((HB4.out.setCell (by simp) _).setCell (by simp; omega) _).setCell (by simp; omega) _
end Go.Proofs.Ytmlhpchabnajkaa
