/- the reference's Repeat -/
import Derived.Test.YtmlhpchabnajkaaNet13
namespace Go.Proofs.Ytmlhpchabnajkaa
set_option linter.unusedSimpArgs false
set_option linter.unusedVariables false
open Go.RowKit
attribute [local go_sem ↓] Go.wp_at_zero Go.wp_at_succ
attribute [local go_sem] gquiet gquietAt sameUpon growUpon leB_true
def AggNet (G : Nat → Prop) (m : NetM) (v : Value) (W : World) : Prop := ∃ qb qd ab ad, v = .agg #[.slice qb m.queue.length qd, .slice ab m.apart.length ad] ∧ RNet (InF G W) W m [.slice qb m.queue.length qd, .slice ab m.apart.length ad]
def TupNet (G : Nat → Prop) (m : NetM) (er : Int) (v : Value) (W : World) : Prop := ∃ qb qd ab ad, v = .tuple #[.agg #[.slice qb m.queue.length qd, .slice ab m.apart.length ad], .int .i64 er] ∧ RNet (InF G W) W m [.slice qb m.queue.length qd, .slice ab m.apart.length ad]
theorem aggNet_stable (G : Nat → Prop) (m : NetM) : StableV (AggNet G m) := fun h ⟨qb, qd, ab, ad, e, hr⟩ => ⟨qb, qd, ab, ad, e, good_net.keep (inF_below h).1 (inF_below h).2 hr⟩
theorem tupNet_stable (G : Nat → Prop) (m : NetM) (er : Int) : StableV (TupNet G m er) := fun h ⟨qb, qd, ab, ad, e, hr⟩ => ⟨qb, qd, ab, ad, e, good_net.keep (inF_below h).1 (inF_below h).2 hr⟩
set_option maxRecDepth 100000 in
set_option maxHeartbeats 3000000 in
theorem rrepeat_any (n : NetM) (i : Int) (qa : Option Addr) (qc : Nat) (aa : Option Addr) (ac : Nat) (w : World) (F : Nat → Prop) (hF : ∀ b, F b → b < w.heap.size) (hr : RNet F w n [.slice qa n.queue.length qc, .slice aa n.apart.length ac]) :
    Calls Try.prog 26 #[.agg #[.slice qa n.queue.length qc, .slice aa n.apart.length ac], .int .i64 i] w (NetRet F (repN n i) (repE n i) w) := by
  have HFL := Lib.hid hF
  clear hF
  have HR := Lib.hid hr
  clear hr
  have HE := Lib.hid (repN_err (n := n) (i := i))
  have HO := Lib.hid (repN_ok (n := n) (i := i))
  have HK := Lib.hid (askE_ok (n := n) (i := i))
  have HAP : Hid (∀ (k : Nat) (hk : k < n.queue.length), i = k → askE n i = 0 → atP n i = n.queue[k]) := fun k hk e h => by subst e; exact atP_ok h hk
  have hb0 : Below w.heap.size w ((w.alloc (.cells #[.slice qa n.queue.length qc, .slice aa n.apart.length ac] 25)).alloc (.cells #[.slice none 0 0, .slice none 0 0] 25)) := (below_new _ _).alloc (by simp) _
  have HB0 := Lib.hid hb0
  clear hb0
  have HAT := Lib.hid (asked_any n i qa qc aa ac _ (good_net.below HB0.out (good_net.toNow HFL.out HR.out)))
  generalize repN n i = m at *
  generalize repE n i = re at *
  generalize askE n i = er at *
  generalize atP n i = p at *
  go_enter Try.func26, Try.ntmps26
  go_wp2_with fail
  refine HAT.out.mono ?_
  rintro e w1 ⟨rfl, hb1⟩
  have BX : Box w1 w.heap.size #[.slice qa n.queue.length qc, .slice aa n.apart.length ac] 25 := ((Box.new w _ _).alloc _).below hb1
  have BZ : Box w1 (w.heap.size + 1) #[.slice none 0 0, .slice none 0 0] 25 := by
    have h := (Box.new (w.alloc (.cells #[.slice qa n.queue.length qc, .slice aa n.apart.length ac] 25)) #[.slice none 0 0, .slice none 0 0] 25).below hb1
    simpa using h
  have HB1 := Lib.hid (HB0.out.trans (hb1.mono (by simp; omega)))
  clear hb1
  have HX := Lib.hid BX
  have HZ := Lib.hid BZ
  have x0 := BX.cell 0 rfl
  have x1 := BX.cell 1 rfl
  have z0 := BZ.cell 0 rfl
  have z1 := BZ.cell 1 rfl
  have fz0 := BZ.free 0
  have fz1 := BZ.free 1
  clear BX BZ HAT
  by_cases he : er = 0
  · subst he
    obtain ⟨hm, hre⟩ := HO.out rfl
    obtain ⟨hi0, hik, hil, hie⟩ := HK.out rfl
    obtain ⟨k, hk⟩ : ∃ k, i.toNat = k := ⟨_, rfl⟩
    rw [hk] at hik hie
    subst hie
    have hp := HAP.out k hik rfl rfl
    clear hk HAP HK
    obtain ⟨_, _, _, _, e, hq1, hq2, hq3, ha1, ha2, ha3⟩ := HR.out
    cases e
    obtain ⟨b, off, cs, rfl, hbl, hpk, hcc⟩ := hq3 k hik
    obtain ⟨da, dc, rfl, hpk'⟩ := hpk
    have HPK : Hid (RPk F w n.queue[k] [.int .i64 n.queue[k].src, .int .i64 n.queue[k].dst, .slice da n.queue[k].data.length dc]) := ⟨da, dc, rfl, hpk'⟩
    have g0 : w.cell? ⟨b, off + k * 3, none⟩ = _ := hcc 0 _ rfl
    have g1 : w.cell? ⟨b, off + k * 3 + 1, none⟩ = _ := hcc 1 _ rfl
    have g2 : w.cell? ⟨b, off + k * 3 + 2, none⟩ = _ := hcc 2 _ rfl
    rw [← hp] at HPK g0 g1 g2
    have hk1 : (k : Int) < (n.queue.length : Int) := by omega
    have hk0 : (0 : Int) ≤ (k : Int) := by omega
    have hsz0 := HZ.out.lt
    have HSZ := Lib.hid hsz0
    have HS : Hid (∀ W, Below w.heap.size w W → Calls Try.prog 12 #[.agg #[.slice (some ⟨b, off, none⟩) n.queue.length qc, .slice aa n.apart.length ac], .agg #[.int .i64 p.src, .int .i64 p.dst, .slice da p.data.length dc]] W (NetRet F m re W)) := fun W hW => by
      rw [hm, hre]
      exact rsend_any n p _ qc aa ac da dc W F (fun b hb => Nat.lt_of_lt_of_le (HFL.out b hb) hW.size) (good_net.same HFL.out hW HR.out) (good_pk.same HFL.out hW HPK.out)
    clear hp hcc hpk' hq3 ha3 hm hre hsz0
    go_wp2
    have r0 := fun p : LaterG LeB w1.drew => p.drewCell x0
    have r1 := fun p : LaterG LeB w1.drew => p.drewCell x1
    have r2 := fun p : LaterG LeB w1.drew => p.drewCell (below_cell HB1.out g0)
    have r3 := fun p : LaterG LeB w1.drew => p.drewCell (below_cell HB1.out g1)
    have r4 := fun p : LaterG LeB w1.drew => p.drewCell (below_cell HB1.out g2)
    refine wp_region_grow [0, 1, 2, 3, 4, 5, 6, 7, 8] [9, 10] LeB (tbl [(6, TupNet (GF F w1.heap.size) m re), (7, AggNet (GF F w1.heap.size) m), (8, fun v _ => v = .int .i64 re)]) (hvOf [(6, []), (7, [6]), (8, [6])]) (by kernel_rfl) (by kernel_rfl) (by kernel_rfl) (lawful_cons (tupNet_stable _ _ _) (lawful_cons (aggNet_stable _ _) (lawful_cons (isVal_stable _) lawful_nil))) (leB_refl _) ?_
    simp only [pickOps, List.getElem?_cons_zero, List.getElem?_cons_succ, List.map_cons, List.map_nil]
    repeat (refine wpG_step rfl (fun K hK => ?_); go_simp; refine hK _ ?_; clear hK K)
    refine wpG_heavy rfl rfl (fun q _ => ?_) (fun v6 => ?_)
    · go_simp
      refine (HS.out q.W (HB1.out.trans (q.below.mono HB1.out.size))).mono ?_
      rintro e W'' ⟨qb, qd, ab, ad, rfl, hrn, hb⟩
      exact ⟨_, rfl, hb, qb, qd, ab, ad, rfl, good_net.keep (fun b hb' => ⟨hb'.1.imp id (fun h => Nat.le_trans q.below.size h), hb'.2⟩) (fun _ _ => rfl) hrn⟩
    simp only [Act.put, List.setIfInBounds_toArray, List.set_cons_zero, List.set_cons_succ]
    refine wpG_heavy rfl rfl (fun q hq => ?_) (fun v7 => ?_)
    · obtain ⟨qb, qd, ab, ad, hv, hrn⟩ : TupNet (GF F w1.heap.size) m re v6 q.W := hq 6 (by simp)
      subst hv
      go_simp
      exact ⟨qb, qd, ab, ad, rfl, hrn⟩
    simp only [Act.put, List.setIfInBounds_toArray, List.set_cons_zero, List.set_cons_succ]
    refine wpG_heavy rfl rfl (fun q hq => ?_) (fun v8 => ?_)
    · obtain ⟨qb, qd, ab, ad, hv, hrn⟩ : TupNet (GF F w1.heap.size) m re v6 q.W := hq 6 (by simp)
      subst hv
      go_simp
      rfl
    simp only [Act.put, List.setIfInBounds_toArray, List.set_cons_zero, List.set_cons_succ]
    refine wpG_nil ?_
    intro q hf
    obtain ⟨qb, qd, ab, ad, hv, hrn⟩ : AggNet (GF F w1.heap.size) m v7 q.W := hf 7 [6] (by simp) rfl
    have hv8 : v8 = .int .i64 re := hf 8 [6] (by simp) rfl
    subst hv hv8
    have HZ2 := Lib.hid (HZ.out.below q.below)
    have HB2 := Lib.hid (HB1.out.trans (q.below.mono HB1.out.size))
    have c0 := HZ2.out.cell 0 rfl
    have c1 := HZ2.out.cell 1 rfl
    have fc0 := HZ2.out.free 0
    have fc1 := HZ2.out.free 1
    have HRN := Lib.hid hrn
    clear hrn hf r0 r1 r2 r3 r4 x0 x1 z0 z1 fz0 fz1 g0 g1 g2
    obtain ⟨w2, W2by⟩ := q
    simp only at HZ2 HB2 c0 c1 fc0 fc1 HRN ⊢
    go_wp2
    have hsz1 := HSZ.out
    have B2 := ((HZ2.out.set 0 (.slice qb m.queue.length qd)).set 1 (.slice ab m.apart.length ad))
    refine bodyPost_ret (v := .tuple #[.agg #[.slice qb m.queue.length qd, .slice ab m.apart.length ad], .int .i64 re]) (by simp [results, Try.results26, go_sem, B2.cell 0 rfl, B2.cell 1 rfl]) rfl ⟨qb, qd, ab, ad, rfl, ?_, (HB2.out.setCell (by simp) _).setCell (by simp) _⟩
    refine good_net.keep (fun b hb => ?_) (fun b hb => ?_) HRN.out
    · refine ⟨hb.1.imp id (fun h => by omega), ?_⟩
      have := hb.2
      simp [World.setCell]; omega
    · have hb' : b < w.heap.size ∨ w1.heap.size ≤ b := hb.1.imp (HFL.out b) id
      rw [Below.heap_setCell _ _ _ _ (by show b ≠ w.heap.size + 1; omega), Below.heap_setCell _ _ _ _ (by show b ≠ w.heap.size + 1; omega)]
  · obtain ⟨hm, hre⟩ := HE.out he
    subst hm hre
    go_wp2
    have B2 := ((HZ.out.set 0 (.slice none 0 0)).set 1 (.slice none 0 0))
    exact bodyPost_ret (v := .tuple #[.agg #[.slice none 0 0, .slice none 0 0], .int .i64 re]) (by simp [results, Try.results26, go_sem, B2.cell 0 rfl, B2.cell 1 rfl]) rfl ⟨none, 0, none, 0, rfl, rnet_nil _ _, (HB1.out.setCell (by simp) _).setCell (by simp) _⟩
end Go.Proofs.Ytmlhpchabnajkaa
