/- the reference's Deliver -/
import Derived.Test.YtmlhpchabnajkaaNet15
namespace Go.Proofs.Ytmlhpchabnajkaa
set_option linter.unusedSimpArgs false
set_option linter.unusedVariables false
open Go.RowKit
attribute [local go_sem ↓] Go.wp_at_zero Go.wp_at_succ
attribute [local go_sem] gquiet gquietAt sameUpon growUpon leB_true
set_option maxRecDepth 100000 in
set_option maxHeartbeats 3000000 in
theorem rdeliver_any (n : NetM) (i : Int) (qa : Option Addr) (qc : Nat) (aa : Option Addr) (ac : Nat) (w : World) (F : Nat → Prop) (hF : ∀ b, F b → b < w.heap.size) (hr : RNet F w n [.slice qa n.queue.length qc, .slice aa n.apart.length ac]) :
    Calls Try.prog 22 #[.agg #[.slice qa n.queue.length qc, .slice aa n.apart.length ac], .int .i64 i] w (DelRet F (delP n i) (loseN n i) (askE n i) w) := by
  have HFL := Lib.hid hF
  clear hF
  have HR := Lib.hid hr
  clear hr
  have HE := Lib.hid (delP_err (n := n) (i := i))
  have HO := Lib.hid (delP_ok (n := n) (i := i))
  have HK := Lib.hid (askE_ok (n := n) (i := i))
  have HAP : Hid (∀ (k : Nat) (hk : k < n.queue.length), i = k → askE n i = 0 → atP n i = n.queue[k]) := fun k hk e h => by subst e; exact atP_ok h hk
  have hb0 : Below w.heap.size w (((w.alloc (.cells #[.slice qa n.queue.length qc, .slice aa n.apart.length ac] 25)).alloc (.cells #[.int .i64 0, .int .i64 0, .slice none 0 0] 28)).alloc (.cells #[.slice none 0 0, .slice none 0 0] 25)) := ((below_new _ _).alloc (by simp) _).alloc (by simp; omega) _
  have HB0 := Lib.hid hb0
  clear hb0
  have HAT := Lib.hid (asked_any n i qa qc aa ac _ (good_net.below HB0.out (good_net.toNow HFL.out HR.out)))
  generalize delP n i = dp at *
  generalize loseN n i = m at *
  generalize askE n i = er at *
  generalize atP n i = p at *
  go_enter Try.func22, Try.ntmps22
  go_wp2_with fail
  refine HAT.out.mono ?_
  rintro e w1 ⟨rfl, hb1⟩
  have BX : Box w1 w.heap.size #[.slice qa n.queue.length qc, .slice aa n.apart.length ac] 25 := (((Box.new w _ _).alloc _).alloc _).below hb1
  have BY : Box w1 (w.heap.size + 1) #[.int .i64 0, .int .i64 0, .slice none 0 0] 28 := by
    have h := ((Box.new (w.alloc (.cells #[.slice qa n.queue.length qc, .slice aa n.apart.length ac] 25)) #[.int .i64 0, .int .i64 0, .slice none 0 0] 28).alloc (.cells #[.slice none 0 0, .slice none 0 0] 25)).below hb1
    simpa using h
  have BZ : Box w1 (w.heap.size + 1 + 1) #[.slice none 0 0, .slice none 0 0] 25 := by
    have h := (Box.new ((w.alloc (.cells #[.slice qa n.queue.length qc, .slice aa n.apart.length ac] 25)).alloc (.cells #[.int .i64 0, .int .i64 0, .slice none 0 0] 28)) #[.slice none 0 0, .slice none 0 0] 25).below hb1
    simpa using h
  have HB1 := Lib.hid (HB0.out.trans (hb1.mono (by simp; omega)))
  clear hb1
  have HX := Lib.hid BX
  have HY := Lib.hid BY
  have HZ := Lib.hid BZ
  have x0 := BX.cell 0 rfl
  have x1 := BX.cell 1 rfl
  have y0 := BY.cell 0 rfl
  have y1 := BY.cell 1 rfl
  have y2 := BY.cell 2 rfl
  have fy0 := BY.free 0
  have fy1 := BY.free 1
  have fy2 := BY.free 2
  have z0 := BZ.cell 0 rfl
  have z1 := BZ.cell 1 rfl
  have fz0 := BZ.free 0
  have fz1 := BZ.free 1
  clear BX BY BZ HAT
  by_cases he : er = 0
  · subst he
    obtain ⟨hdp, hm⟩ := HO.out rfl
    obtain ⟨hi0, hik, hil, hie⟩ := HK.out rfl
    obtain ⟨k, hk⟩ : ∃ k, i.toNat = k := ⟨_, rfl⟩
    rw [hk] at hik hie hm
    subst hie
    have hp := HAP.out k hik rfl rfl
    clear hk HAP HK HO HE
    obtain ⟨_, _, _, _, e, hq1, hq2, hq3, ha1, ha2, ha3⟩ := HR.out
    cases e
    obtain ⟨b, off, cs, rfl, hbl, hpk, hcc⟩ := hq3 k hik
    obtain ⟨da, dc, rfl, hpk'⟩ := hpk
    have HPK : Hid (RPk F w n.queue[k] [.int .i64 n.queue[k].src, .int .i64 n.queue[k].dst, .slice da n.queue[k].data.length dc]) := ⟨da, dc, rfl, hpk'⟩
    have g0 : w.cell? ⟨b, off + k * 3, none⟩ = _ := hcc 0 _ rfl
    have g1 : w.cell? ⟨b, off + k * 3 + 1, none⟩ = _ := hcc 1 _ rfl
    have g2 : w.cell? ⟨b, off + k * 3 + 2, none⟩ = _ := hcc 2 _ rfl
    rw [← hp] at HPK g0 g1 g2
    have h0 := below_cell HB1.out g0
    have h1 := below_cell HB1.out g1
    have h2 := below_cell HB1.out g2
    have hk1 : (k : Int) < (n.queue.length : Int) := by omega
    have hk0 : (0 : Int) ≤ (k : Int) := by omega
    have hsz0 := HZ.out.lt
    have HSZ := Lib.hid hsz0
    have HM := Lib.hid hm
    have HDP := Lib.hid hdp
    have hbU : Below w.heap.size w (w1.alloc (.cells #[.int .i64 p.src, .int .i64 p.dst, .slice da p.data.length dc] 28)) := HB1.out.alloc HB1.out.size _
    have HC := Lib.hid (isCut_any n p.src p.dst _ qc aa ac _ (good_net.below hbU (good_net.toNow HFL.out HR.out)))
    have HBU := Lib.hid hbU
    have HXU := Lib.hid (HX.out.alloc (.cells #[.int .i64 p.src, .int .i64 p.dst, .slice da p.data.length dc] 28))
    have xa0 := HXU.out.cell 0 rfl
    have xa1 := HXU.out.cell 1 rfl
    clear hp hcc hpk' hq3 ha3 hm hsz0 hdp hbU g0 g1 g2
    generalize cutB n.apart p.src p.dst = cb at *
    go_wp2_with fail
    refine HC.out.mono ?_
    rintro e V ⟨rfl, hV⟩
    have X9 := HXU.out.below hV
    have Y9 := (HY.out.alloc (.cells #[.int .i64 p.src, .int .i64 p.dst, .slice da p.data.length dc] 28)).below hV
    have Z9 := (HZ.out.alloc (.cells #[.int .i64 p.src, .int .i64 p.dst, .slice da p.data.length dc] 28)).below hV
    have T9 := (Box.new w1 #[.int .i64 p.src, .int .i64 p.dst, .slice da p.data.length dc] 28).below hV
    have B9 := HBU.out.trans (hV.mono HBU.out.size)
    have P9 := good_pk.same HFL.out B9 HPK.out
    have hT1 : w.heap.size + 1 + 1 < w1.heap.size := HSZ.out
    have hTT := HB1.out.size
    generalize w1.heap.size = T at *
    clear x0 x1 y0 y1 y2 fy0 fy1 fy2 z0 z1 fz0 fz1 h0 h1 h2 xa0 xa1 hV HC HXU HX HY HZ HBU HSZ HPK
    cases cb
    case' false =>
      have hdp := HDP.out
      rw [if_neg (by simp)] at hdp
      subst hdp
      have HX := Lib.hid X9
      have HY := Lib.hid Y9
      have HZ := Lib.hid Z9
      have HT := Lib.hid T9
      have HB := Lib.hid B9
      have HP := Lib.hid P9
      have x0 := X9.cell 0 rfl
      have x1 := X9.cell 1 rfl
      have p0 := T9.cell 0 rfl
      have p1 := T9.cell 1 rfl
      have p2 := T9.cell 2 rfl
      have HT1 := Lib.hid hT1
      clear X9 Y9 Z9 B9 P9 T9 HDP hT1 hTT
      go_wp2_with fail
    case' true =>
      have hdp := HDP.out
      rw [if_pos rfl] at hdp
      have e1 : dp.src = 0 := by rw [hdp]; rfl
      have e2 : dp.dst = 0 := by rw [hdp]; rfl
      have e3 : dp.data.length = 0 := by rw [hdp]; rfl
      have HN : Hid (∀ F w, RPk F w dp [.int .i64 dp.src, .int .i64 dp.dst, .slice none dp.data.length 0]) := fun F w => by rw [hdp]; exact rpk_nil F w
      have q0 := T9.cell 0 rfl
      have q1 := T9.cell 1 rfl
      have q2 := T9.cell 2 rfl
      have fq0 := T9.free 0
      have fq1 := T9.free 1
      have fq2 := T9.free 2
      obtain ⟨V', hV'⟩ : ∃ V', V' = ((V.setCell ⟨T, 0, none⟩ (.int .i64 0)).setCell ⟨T, 1, none⟩ (.int .i64 0)).setCell ⟨T, 2, none⟩ (.slice none 0 0) := ⟨_, rfl⟩
      have HX : Hid (Box V' w.heap.size #[.slice (some ⟨b, off, none⟩) n.queue.length qc, .slice aa n.apart.length ac] 25) := by rw [hV']; exact ((X9.other (by omega) _).other (by omega) _).other (by omega) _
      have HZ : Hid (Box V' (w.heap.size + 1 + 1) #[.slice none 0 0, .slice none 0 0] 25) := by rw [hV']; exact ((Z9.other (by omega) _).other (by omega) _).other (by omega) _
      have HY : Hid (Box V' (w.heap.size + 1) #[.int .i64 0, .int .i64 0, .slice none 0 0] 28) := by rw [hV']; exact ((Y9.other (by omega) _).other (by omega) _).other (by omega) _
      have HT : Hid (Box V' T #[.int .i64 dp.src, .int .i64 dp.dst, .slice none dp.data.length 0] 28) := by rw [hV', e1, e2, e3]; exact ((T9.set 0 _).set 1 _).set 2 _
      have HB : Hid (Below w.heap.size w V') := by rw [hV']; exact ((B9.setCell hTT _).setCell hTT _).setCell hTT _
      have HV := Lib.hid hV'
      have HT1 := Lib.hid hT1
      clear hdp e1 e2 e3 hV' X9 Y9 Z9 B9 P9 T9 HDP hT1 hTT
      go_wp2_with fail
      rw [← HV.out]
      clear HV q0 q1 q2 fq0 fq1 fq2 V
      obtain ⟨da, hda⟩ : ∃ da : Option Addr, da = none := ⟨_, rfl⟩
      obtain ⟨dc, hdc⟩ : ∃ dc : Nat, dc = 0 := ⟨_, rfl⟩
      rw [← hda, ← hdc] at HT HN
      have HP := Lib.hid (HN.out F V')
      obtain ⟨V, hV⟩ : ∃ V, V = V' := ⟨_, rfl⟩
      subst hV
      have x0 := HX.out.cell 0 rfl
      have x1 := HX.out.cell 1 rfl
      have p0 := HT.out.cell 0 rfl
      have p1 := HT.out.cell 1 rfl
      have p2 := HT.out.cell 2 rfl
      clear HN hda hdc
    all_goals
      have r0 := fun q : LaterG LeB V.drew => q.drewCell x0
      have r1 := fun q : LaterG LeB V.drew => q.drewCell x1
      have r2 := fun q : LaterG LeB V.drew => q.drewCell p0
      have r3 := fun q : LaterG LeB V.drew => q.drewCell p1
      have r4 := fun q : LaterG LeB V.drew => q.drewCell p2
      have HS : Hid (∀ W, Below w.heap.size w W → Calls Try.prog 42 #[.agg #[.slice (some ⟨b, off, none⟩) n.queue.length qc, .slice aa n.apart.length ac], .int .i64 k] W (GivesNet F m W)) := fun W hW => by
        rw [HM.out]
        exact rwithout_any n k hik _ qc aa ac W F (fun b hb => Nat.lt_of_lt_of_le (HFL.out b hb) hW.size) (good_net.same HFL.out hW HR.out) (by omega)
      refine wp_region_grow [0, 1, 2, 3] [4, 5, 6] LeB (tbl [(3, AggNet (GF F V.heap.size) m)]) (hvOf [(3, [])]) (by kernel_rfl) (by kernel_rfl) (by kernel_rfl) (lawful_cons (aggNet_stable _ _) lawful_nil) (leB_refl _) ?_
      simp only [pickOps, List.getElem?_cons_zero, List.getElem?_cons_succ, List.map_cons, List.map_nil]
      repeat (refine wpG_step rfl (fun K hK => ?_); go_simp; refine hK _ ?_; clear hK K)
      refine wpG_heavy rfl rfl (fun q _ => ?_) (fun v6 => ?_)
      · go_simp
        refine (HS.out q.W (HB.out.trans (q.below.mono HB.out.size))).mono ?_
        rintro e W'' ⟨qb, qd, ab, ad, rfl, hrn, hb⟩
        exact ⟨_, rfl, hb, qb, qd, ab, ad, rfl, good_net.keep (fun b hb' => ⟨hb'.1.imp id (fun h => Nat.le_trans q.below.size h), hb'.2⟩) (fun _ _ => rfl) hrn⟩
      simp only [Act.put, List.setIfInBounds_toArray, List.set_cons_zero, List.set_cons_succ]
      refine wpG_nil ?_
      intro q hf
      obtain ⟨qb, qd, ab, ad, hv, hrn⟩ : AggNet (GF F V.heap.size) m v6 q.W := hf 3 [] (by simp) rfl
      subst hv
      have HY2 := Lib.hid (HY.out.below q.below)
      have HZ2 := Lib.hid (HZ.out.below q.below)
      have HB3 := Lib.hid (HB.out.trans (q.below.mono HB.out.size))
      have HP2 : Hid (RPk (fun b => (F b ∨ w.heap.size + 1 + 1 + 1 ≤ b) ∧ b < q.W.heap.size) q.W dp [.int .i64 dp.src, .int .i64 dp.dst, .slice da dp.data.length dc]) := good_pk.keep (fun b hb => ⟨.inl hb, Nat.lt_of_lt_of_le (HFL.out b hb) (Nat.le_trans HB.out.size q.below.size)⟩) (fun b hb => q.below.block b (Nat.lt_of_lt_of_le (HFL.out b hb) HB.out.size)) HP.out
      have hz := HZ.out.lt
      have HL := Lib.hid hz
      have c0 := HZ2.out.cell 0 rfl
      have c1 := HZ2.out.cell 1 rfl
      have fc0 := HZ2.out.free 0
      have fc1 := HZ2.out.free 1
      have d0 := HY2.out.cell 0 rfl
      have d1 := HY2.out.cell 1 rfl
      have d2 := HY2.out.cell 2 rfl
      have fd0 := HY2.out.free 0
      have fd1 := HY2.out.free 1
      have fd2 := HY2.out.free 2
      have HRN := Lib.hid hrn
      clear hrn hf r0 r1 r2 r3 r4 x0 x1 p0 p1 p2 hz
      obtain ⟨W, W2by⟩ := q
      simp only at HY2 HZ2 HB3 c0 c1 fc0 fc1 d0 d1 d2 fd0 fd1 fd2 HRN HP2 ⊢
      go_wp2
      have BY := ((((HY2.out.set 0 (.int .i64 dp.src)).set 1 (.int .i64 dp.dst)).set 2 (.slice da dp.data.length dc)).other (o := 0) (show w.heap.size + 1 ≠ w.heap.size + 1 + 1 by omega) (.slice qb m.queue.length qd)).other (o := 1) (show w.heap.size + 1 ≠ w.heap.size + 1 + 1 by omega) (.slice ab m.apart.length ad)
      have BZ := ((((HZ2.out.other (o := 0) (show w.heap.size + 1 + 1 ≠ w.heap.size + 1 by omega) (.int .i64 dp.src)).other (o := 1) (show w.heap.size + 1 + 1 ≠ w.heap.size + 1 by omega) (.int .i64 dp.dst)).other (o := 2) (show w.heap.size + 1 + 1 ≠ w.heap.size + 1 by omega) (.slice da dp.data.length dc)).set 0 (.slice qb m.queue.length qd)).set 1 (.slice ab m.apart.length ad)
      exact bodyPost_ret (v := .tuple #[.agg #[.int .i64 dp.src, .int .i64 dp.dst, .slice da dp.data.length dc], .agg #[.slice qb m.queue.length qd, .slice ab m.apart.length ad], .int .i64 0]) (by simp [results, Try.results22, go_sem, BY.cell 0 rfl, BY.cell 1 rfl, BY.cell 2 rfl, BZ.cell 0 rfl, BZ.cell 1 rfl]) rfl (del_end 0 HFL.out HL.out HB3.out HP2.out HRN.out)
  · obtain ⟨hdp, hm⟩ := HE.out he
    subst hdp hm
    clear HE HO HK HAP
    go_wp2
    have hz := HZ.out.lt
    have BY := ((((HY.out.set 0 (.int .i64 0)).set 1 (.int .i64 0)).set 2 (.slice none 0 0)).other (o := 0) (show w.heap.size + 1 ≠ w.heap.size + 1 + 1 by omega) (.slice none 0 0)).other (o := 1) (show w.heap.size + 1 ≠ w.heap.size + 1 + 1 by omega) (.slice none 0 0)
    have BZ := ((((HZ.out.other (o := 0) (show w.heap.size + 1 + 1 ≠ w.heap.size + 1 by omega) (.int .i64 0)).other (o := 1) (show w.heap.size + 1 + 1 ≠ w.heap.size + 1 by omega) (.int .i64 0)).other (o := 2) (show w.heap.size + 1 + 1 ≠ w.heap.size + 1 by omega) (.slice none 0 0)).set 0 (.slice none 0 0)).set 1 (.slice none 0 0)
    refine bodyPost_ret (v := .tuple #[.agg #[.int .i64 0, .int .i64 0, .slice none 0 0], .agg #[.slice none 0 0, .slice none 0 0], .int .i64 er]) (by simp [results, Try.results22, go_sem, BY.cell 0 rfl, BY.cell 1 rfl, BY.cell 2 rfl, BZ.cell 0 rfl, BZ.cell 1 rfl]) rfl ?_
    exact del_end (B := w1.heap.size) (p := .nil) (m := .nil) er HFL.out hz HB1.out (rpk_nil _ _) (rnet_nil _ _)
end Go.Proofs.Ytmlhpchabnajkaa
