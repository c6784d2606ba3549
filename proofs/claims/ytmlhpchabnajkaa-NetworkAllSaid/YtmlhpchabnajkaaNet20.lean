/- network.Cut -/
import Derived.Test.YtmlhpchabnajkaaNet19
namespace Go.Proofs.Ytmlhpchabnajkaa
set_option linter.unusedSimpArgs false
set_option linter.unusedVariables false
open Go.RowKit Go.Shelf
attribute [local go_sem] Oper.semAt_some
attribute [local go_sem ↓] Go.wp_at_zero Go.wp_at_succ
theorem rrow_ne {G : Nat → Prop} {W : World} {l : List (Int × Int)} {a : Option Addr} {D : Nat} {ds : Option (List Deferred)} (h : RRow 2 RPr G W l a) (hK : W.heap[D]? = some (.deferred ds)) : RRow 2 RPr (fun b => G b ∧ b ≠ D) W l a := fun i hi => by
  obtain ⟨b, off, cs, rfl, hb, hr, hc⟩ := h i hi
  refine ⟨b, off, cs, rfl, ⟨hb, fun e => ?_⟩, hr, hc⟩
  subst e
  have h1 := hc 0 (.int .i64 l[i].1) (by rw [hr.1]; rfl)
  simp [World.cell?, hK] at h1
theorem cut_done {F : Nat → Prop} {w U W : World} {n : NetM} {l : List (Int × Int)} {qa : Option Addr} {qc : Nat} {aa : Option Addr} {ac : Nat} {pa : Option Addr} {pc D : Nat} {ds : Option (List Deferred)} (hF : ∀ b, F b → b < w.heap.size) (hU : w.heap.size + 1 < U.heap.size) (hD : U.heap.size ≤ D) (hb : Below w.heap.size w W) (hUW : U.heap.size ≤ W.heap.size) (hK : W.heap[D]? = some (.deferred ds))
    (hr : RNet F w n [.slice qa n.queue.length qc, .slice aa n.apart.length ac]) (hpc : l.length ≤ pc) (hl : l.length ≤ 140737488351232) (hrow : RRow 2 RPr (fun b => U.heap.size ≤ b ∧ b < W.heap.size) W l pa) (o : Obj) :
    NetRet F ⟨n.queue, l⟩ 0 w (.returned (.tuple #[.agg #[.slice qa n.queue.length qc, .slice pa l.length pc], .int .i64 0])) (((W.setCell ⟨w.heap.size + 1, 0, none⟩ (.slice qa n.queue.length qc)).setCell ⟨w.heap.size + 1, 1, none⟩ (.slice pa l.length pc)).putObj D o) := by
  have hrow' := rrow_ne hrow hK
  obtain ⟨V, hV⟩ : ∃ V, V = (W.setCell ⟨w.heap.size + 1, 0, none⟩ (.slice qa n.queue.length qc)).setCell ⟨w.heap.size + 1, 1, none⟩ (.slice pa l.length pc) := ⟨_, rfl⟩
  have hk : ∀ b, b ≠ w.heap.size + 1 → b ≠ D → (V.putObj D o).heap[b]? = W.heap[b]? := fun b h1 h2 => by
    rw [World.putObj_heap_other h2, hV, Below.heap_setCell _ _ _ _ (by show b ≠ w.heap.size + 1; exact h1), Below.heap_setCell _ _ _ _ (by show b ≠ w.heap.size + 1; exact h1)]
  have hs : (V.putObj D o).heap.size = W.heap.size := by rw [hV]; simp [World.setCell, World.putObj]
  have hbV : Below w.heap.size w V := by rw [hV]; exact (hb.setCell (by simp) _).setCell (by simp) _
  have hVs : V.heap.size = W.heap.size := by rw [hV]; simp [World.setCell]
  have hbP : Below w.heap.size w (V.putObj D o) := hbV.grown (grownBy_putObj' V D o) (by have := hb.size; omega) (fun k e => by cases e; omega)
  rw [← hV]
  obtain ⟨_, _, _, _, e, h1, h2, h3, h4, h5, h6⟩ := hr
  cases e
  refine ⟨qa, qc, pa, pc, rfl, ⟨qa, qc, pa, pc, rfl, h1, h2, h3.keep good_pk (fun b h => ?_) (fun b h => hbP.block b (hF b h)), hpc, hl, hrow'.keep good_pr (fun b h => ?_) (fun b h => hk b (by omega) h.2)⟩, hbP⟩
  · have := hF b h
    have := hb.size
    exact ⟨.inl h, by rw [hs]; omega⟩
  · exact ⟨.inr (by omega), by rw [hs]; exact h.1.2⟩
set_option maxRecDepth 100000 in
set_option maxHeartbeats 3000000 in
theorem cut_any (n : NetM) (a b : Int) (on : Bool) (qa : Option Addr) (qc : Nat) (aa : Option Addr) (ac : Nat) (w : World) (F : Nat → Prop) (hF : ∀ b, F b → b < w.heap.size) (hr : RNet F w n [.slice qa n.queue.length qc, .slice aa n.apart.length ac]) :
    Calls Try.prog 20 #[.agg #[.slice qa n.queue.length qc, .slice aa n.apart.length ac], .int .i64 a, .int .i64 b, .bool on] w (NetRet F (cutN n a b on) (cutE n a b) w) := by
  have HFL := Lib.hid hF
  clear hF
  have HR := Lib.hid hr
  clear hr
  have hb0 : Below w.heap.size w ((w.alloc (.cells #[.slice qa n.queue.length qc, .slice aa n.apart.length ac] 25)).alloc (.cells #[.slice none 0 0, .slice none 0 0] 25)) := (below_new _ _).alloc (by simp) _
  have HB0 := Lib.hid hb0
  clear hb0
  have HC := Lib.hid (check_any n qa qc aa ac _ (good_net.below HB0.out (good_net.toNow HFL.out HR.out)))
  have HE1 := Lib.hid (cutE_bad (n := n) (a := a) (b := b))
  have HE2 : Hid (netB n = true → validB (min a b) (max a b) = false → cutE n a b = 1) := fun h1 h2 => by unfold cutE; rw [h1, h2]; rfl
  have HE3 : Hid (netB n = true → validB (min a b) (max a b) = true → cutE n a b = 0) := fun h1 h2 => by unfold cutE; rw [h1, h2]; rfl
  have HN1 := Lib.hid (cutN_err (n := n) (a := a) (b := b) (on := on))
  have HN2 := Lib.hid (cutN_ok (n := n) (a := a) (b := b) (on := on))
  have HCK : Hid (chk n = if netB n then 0 else 60) := rfl
  have HBT : Hid (∀ w, Calls Try.prog 37 #[.int .i64 a, .int .i64 b] w (Gives (.agg #[.int .i64 (min a b), .int .i64 (max a b)]) w)) := fun w => between_any a b w
  have HVL : Hid (∀ w, Calls Try.prog 32 #[.agg #[.int .i64 (min a b), .int .i64 (max a b)]] w (Gives (.bool (validB (min a b) (max a b))) w)) := fun w => valid_any _ _ w
  have HLK : Hid (linkOf a b = (min a b, max a b)) := rfl
  generalize cutN n a b on = m at *
  generalize cutE n a b = er at *
  generalize chk n = ck at *
  generalize netB n = nb at *
  generalize linkOf a b = lk at *
  generalize min a b = lo at *
  generalize max a b = hi at *
  generalize validB lo hi = vb at *
  refine (callsIn_wide (n := 6)).1 ?_
  refine callsIn_of_wp_marks Try.func20 rfl trivial ?_ rfl
  simp only [Try.ntmps20, List.size_toArray, List.length_cons, List.length_nil, Nat.reduceAdd, Nat.reduceSub, Array.replicate_succ, Array.replicate_zero, List.push_toArray, List.append_toArray, List.nil_append, List.cons_append]
  refine wpIn_wide.2 ?_
  go_wp2_with fail
  refine HC.out.mono ?_
  rintro e w1 ⟨rfl, hb1⟩
  have BX : Box w1 w.heap.size #[.slice qa n.queue.length qc, .slice aa n.apart.length ac] 25 := ((Box.new w _ _).alloc _).below hb1
  have BZ : Box w1 (w.heap.size + 1) #[.slice none 0 0, .slice none 0 0] 25 := by
    have h := (Box.new (w.alloc (.cells #[.slice qa n.queue.length qc, .slice aa n.apart.length ac] 25)) #[.slice none 0 0, .slice none 0 0] 25).below hb1
    simpa using h
  have HB1 := Lib.hid (HB0.out.trans (hb1.mono (by simp; omega)))
  clear hb1 HC
  have HX := Lib.hid BX
  have HZ := Lib.hid BZ
  clear BX BZ
  have HERR : Hid (∀ W, Below w1.heap.size w1 W → er ≠ 0 → NetRet F m er w (.returned (.tuple #[.agg #[.slice none 0 0, .slice none 0 0], .int .i64 er])) ((W.setCell ⟨w.heap.size + 1, 0, none⟩ (.slice none 0 0)).setCell ⟨w.heap.size + 1, 1, none⟩ (.slice none 0 0))) := fun W hW he => by
    rw [HN1.out he]
    exact ⟨none, 0, none, 0, rfl, rnet_nil _ _, ((HB1.out.trans (hW.mono HB1.out.size)).setCell (by simp) _).setCell (by simp) _⟩
  cases nb
  · have he := HE1.out rfl
    have hck : ck = 60 := HCK.out
    subst hck he
    have z0 := HZ.out.cell 0 rfl
    have z1 := HZ.out.cell 1 rfl
    have fz0 := HZ.out.free 0
    have fz1 := HZ.out.free 1
    go_wp2
    have B2 := ((HZ.out.set 0 (.slice none 0 0)).set 1 (.slice none 0 0))
    exact ⟨.tuple #[.agg #[.slice none 0 0, .slice none 0 0], .int .i64 60], by simp [results, Try.results20, go_sem, B2.cell 0 rfl, B2.cell 1 rfl], HERR.out _ (Below.refl _ _) (by decide)⟩
  · have hck : ck = 0 := HCK.out
    subst hck
    go_wp2_with fail
    refine (HBT.out _).mono ?_
    rintro e w2 ⟨rfl, hb2⟩
    have HBL2 : Hid (Below w1.heap.size w1 (w2.alloc (.cells #[.int .i64 lo, .int .i64 hi] 58))) := hb2.alloc hb2.size _
    clear hb2
    go_wp2_with fail
    refine (HVL.out _).mono ?_
    rintro e w3 ⟨rfl, hb3⟩
    have HB3 := Lib.hid (HBL2.out.trans (hb3.mono HBL2.out.size))
    have TL := (Box.new w2 #[.int .i64 lo, .int .i64 hi] 58).below hb3
    have CX := HX.out.below HB3.out
    have CZ := HZ.out.below HB3.out
    have HBW := Lib.hid (HB1.out.trans (HB3.out.mono HB1.out.size))
    have z0 := CZ.cell 0 rfl
    have z1 := CZ.cell 1 rfl
    have fz0 := CZ.free 0
    have fz1 := CZ.free 1
    have HX3 := Lib.hid CX
    have HZ3 := Lib.hid CZ
    have HT3 := Lib.hid TL
    clear hb3 CX CZ HX HZ HBL2 TL
    cases vb
    · have he : er = 1 := HE2.out (by trivial) (by trivial)
      subst he
      go_wp2
      have B2 := ((HZ3.out.set 0 (.slice none 0 0)).set 1 (.slice none 0 0))
      exact ⟨.tuple #[.agg #[.slice none 0 0, .slice none 0 0], .int .i64 1], by simp [results, Try.results20, go_sem, B2.cell 0 rfl, B2.cell 1 rfl], HERR.out _ HB3.out (by decide)⟩
    · have he : er = 0 := HE3.out (by trivial) (by trivial)
      have hm := HN2.out he
      subst he
      have HM := Lib.hid hm
      clear hm HE1 HE2 HE3 HN1 HN2 HCK HBT HVL HERR
      have x0 := HX3.out.cell 0 rfl
      have x1 := HX3.out.cell 1 rfl
      have hne : w2.heap.size ≠ w.heap.size + 1 := fun e => by
        have h1 := HZ3.out
        have h2 := HT3.out
        rw [e] at h2
        have h3 := h1.symm.trans h2
        cases h3
      obtain ⟨U, hU⟩ : ∃ U, U = (w3.setCell ⟨w.heap.size + 1, 0, none⟩ (.slice qa n.queue.length qc)).setCell ⟨w.heap.size + 1, 1, none⟩ (.slice none 0 0) := ⟨_, rfl⟩
      have HXU : Hid (Box U w.heap.size #[.slice qa n.queue.length qc, .slice aa n.apart.length ac] 25) := by rw [hU]; exact (HX3.out.other (by omega) _).other (by omega) _
      have HZU : Hid (Box U (w.heap.size + 1) #[.slice qa n.queue.length qc, .slice none 0 0] 25) := by rw [hU]; exact (HZ3.out.set 0 _).set 1 _
      have HTU : Hid (Box U w2.heap.size #[.int .i64 lo, .int .i64 hi] 58) := by rw [hU]; exact (HT3.out.other hne _).other hne _
      have HBU : Hid (Below w.heap.size w U) := by rw [hU]; exact (HBW.out.setCell (by simp) _).setCell (by simp) _
      have HU := Lib.hid hU
      clear hU hne
      go_upto_region 7 with (fail)
      rw [← HU.out]
      clear HU z0 z1 fz0 fz1 x0 x1 HX3 HZ3 HT3
      have x1 := HXU.out.cell 1 rfl
      have t0 := HTU.out.cell 0 rfl
      have t1 := HTU.out.cell 1 rfl
      have HCU := Lib.hid (cuts_any n.apart (lo, hi) on aa ac U)
      go_wp2_with fail
      refine HCU.out.mono ?_
      rintro e w4 ⟨rfl, hw4⟩
      go_wp2_with fail
      rw [← hw4]
      have hUs := HZU.out.lt
      have hs4 : w4.heap.size = U.heap.size + 3 := by rw [hw4]; simp
      have bL : Box w4 U.heap.size #[.slice aa n.apart.length ac] 23 := by rw [hw4]; exact ((Box.new U _ _).alloc _).alloc _
      have bC : Box w4 (U.heap.size + 1) #[.int .i64 lo, .int .i64 hi] 58 := by
        rw [hw4]
        have h := (Box.new (U.alloc (.cells #[.slice aa n.apart.length ac] 23)) #[.int .i64 lo, .int .i64 hi] 58).alloc (.cells #[.bool on] 4)
        simpa using h
      have bO : Box w4 (U.heap.size + 1 + 1) #[.bool on] 4 := by
        rw [hw4]
        have h := Box.new ((U.alloc (.cells #[.slice aa n.apart.length ac] 23)).alloc (.cells #[.int .i64 lo, .int .i64 hi] 58)) #[.bool on] 4
        simpa using h
      have bZ : Box w4 (w.heap.size + 1) #[.slice qa n.queue.length qc, .slice none 0 0] 25 := by rw [hw4]; exact ((HZU.out.alloc _).alloc _).alloc _
      have hB4 : Below w.heap.size w w4 := by rw [hw4]; exact ((HBU.out.alloc HBU.out.size _).alloc (le_alloc HBU.out.size _) _).alloc (le_alloc (le_alloc HBU.out.size _) _) _
      clear hw4 HCU
      obtain ⟨_, _, _, _, e, hq1, hq2, hq3, ha1, ha2, ha3⟩ := HR.out
      cases e
      have hrow : RRow 2 RPr (fun b => b < w4.heap.size ∧ b ≠ w.heap.size + 1) w4 n.apart aa := ha3.keep good_pr (fun b h => by have := HFL.out b h; have := hB4.size; omega) (fun b h => hB4.block b (HFL.out b h))
      refine (wpIn_wide (n := 6)).1 ?_
      refine wpIn_rangeFunc_ownH rfl (by decide) (gf := 46) (lb := #[.pointer (some ⟨U.heap.size + 1, 0, none⟩), .pointer (some ⟨U.heap.size + 1 + 1, 0, none⟩), .pointer (some ⟨U.heap.size, 0, none⟩)]) rfl trivial (enters_of Try.func46 (by kernel_rfl) rfl)
        (cuts_stops (6 - 1) (by decide) n.apart (lo, hi) on w4.heap.size (w.heap.size + 1) (U.heap.size + 1) (U.heap.size + 1 + 1) U.heap.size aa ac w4 (Nat.le_refl _) ha2 hrow bC bO bL (by omega) (by omega) (by omega) (by omega) (by omega) (by omega))
        (fun h k => h.trans k) (Kept.put (Nat.le_refl _)) (Below.refl _ _) (fun _ => rfl)
        (RoundI w w.heap.size w4.heap.size (.slice qa n.queue.length qc)) (fun _ _ _ => False) (roundI_own (Nat.le_refl _) (by omega)) (fun _ _ _ _ _ hs _ _ => hs)
        ⟨⟨_, bZ, OwnL.nil _ _ _⟩, hB4, Nat.le_refl _⟩
        (fun x a' W => ∃ Bx, Box W Bx #[.int .i64 x.1.1, .int .i64 x.1.2] 55 ∧ a' = { tmps := #[.agg #[.slice qa n.queue.length qc, .slice aa n.apart.length ac], .int .i64 a, .int .i64 b, .bool on, .pointer (some ⟨w.heap.size, 0, none⟩), undef, undef, undef, .pointer (some ⟨w.heap.size + 1, 0, none⟩), .int .i64 0, .pointer (some ⟨w2.heap.size, 0, none⟩), .pointer (some ⟨Bx, 0, none⟩), .agg #[.slice qa n.queue.length qc, .slice aa n.apart.length ac], .int .i64 0, .bool false, undef, .int .i64 a, .int .i64 b, .agg #[.int .i64 lo, .int .i64 hi], .agg #[.int .i64 lo, .int .i64 hi], .bool true, .bool false, undef, .pointer (some ⟨w.heap.size, 0, none⟩), .slice qa n.queue.length qc, .agg #[.slice qa n.queue.length qc, .slice none 0 0], .pointer (some ⟨w.heap.size, 1, none⟩), .slice aa n.apart.length ac, .agg #[.int .i64 lo, .int .i64 hi], .bool on, .func (.func 46) #[] #[.pointer (some ⟨U.heap.size + 1, 0, none⟩), .pointer (some ⟨U.heap.size + 1 + 1, 0, none⟩), .pointer (some ⟨U.heap.size, 0, none⟩)], .agg #[.int .i64 x.1.1, .int .i64 x.1.2], undef, undef, undef, undef, undef, undef, undef], defers := [] })
        (fun x a' _ A C row h hg hr => ?ax) ?assign ?body ?done ?stop
      case ax =>
        obtain ⟨Bx, hb, e⟩ := h
        refine ⟨Bx, (hg.block Bx hb.lt (fun e => ?_)).trans hb, e⟩
        obtain ⟨_, o, h1, h2⟩ := hr Bx e.symm
        have h3 := hb.symm.trans h1
        cases h3
        simp [Obj.isCells] at h2
      case assign =>
        rintro l pre x W K hi9 hK
        have HK := Lib.hid hK
        have HI := Lib.hid ((roundI_own (Nat.le_refl _) (by omega) : OwnFrom w4.heap.size (RoundI w w.heap.size w4.heap.size (.slice qa n.queue.length qc))).alloc (.cells #[.int .i64 x.1.1, .int .i64 x.1.2] 55) hi9)
        have HKP : Hid (Kept w4.heap.size (w.heap.size + 1) W (W.alloc (.cells #[.int .i64 x.1.1, .int .i64 x.1.2] 55))) := (Kept.refl _ _ W).alloc hi9.2.2 _
        clear hK hi9
        dsimp only [encW]
        gi_wp2
        exact HK.out _ _ ((KeepsOthers.alloc _ _).from _) HKP.out HI.out ⟨W.heap.size, Box.new W _ _, rfl⟩
      case body =>
        rintro l pre x a' W hl9 hr9 ⟨⟨v, hbz, xs, hown, hcl⟩, hB, hBW⟩ ⟨Bx, bX, rfl⟩ hlt
        have b0 := bX.cell 0 rfl
        have b1 := bX.cell 1 rfl
        have z1 := hbz.cell 1 rfl
        have HOW := Lib.hid (own_later hown (below_new W (.cells #[.int .i64 x.1.1, .int .i64 x.1.2] 55)))
        have HCN := Lib.hid (World.news_of_block (w := W.alloc (.cells #[.int .i64 x.1.1, .int .i64 x.1.2] 55)) (heap_alloc_new W (.cells #[.int .i64 x.1.1, .int .i64 x.1.2] 55)))
        have HRA := Lib.hid (fun v5 w5 hg => round_app (w5 := w5) (v5 := v5) (x := x) (.cells #[.int .i64 x.1.1, .int .i64 x.1.2] 55) hbz hown hcl hB (Nat.le_refl _) (by omega) hBW hg)
        have K3 : Hid ((prs pre).length + 1 ≤ maxLen) := maxLen_le (by rw [prs_len]; omega)
        have K4 : Hid (((prs pre).length + 1) * 16 ≤ 140737488355328) := by unfold Hid; rw [prs_len]; omega
        have K5 : Hid (w4.heap.size ≤ (W.alloc (.cells #[.int .i64 x.1.1, .int .i64 x.1.2] 55)).heap.size) := le_alloc hBW _
        have K6 : Hid (∀ u ∈ [Value.int .i64 x.1.1, Value.int .i64 x.1.2], u.oneCell' = true) := by simp [Hid, Value.oneCell']
        clear hr9 hl9 hown hcl hB hBW hlt bX hbz x1 t0 t1 hs4
        gi_wp2_with (gi_at_builtin; refine wpListIn_app rfl _ _ rfl elemPr w4.heap.size _ _ _ rfl HOW.out _ 1 _ rfl (Source.cells _ _ _ _ rfl rfl HCN.out K6.out) (.inl rfl) K3.out K4.out K5.out ?_; intro v5 w5 hg5; obtain ⟨a5, c5, rfl, b5, hk1, hk2, hk3⟩ := HRA.out v5 w5 hg5; have HK1 := Lib.hid hk1; have HK2 := Lib.hid hk2; have HK3 := Lib.hid hk3; have z51 := b5.cell 1 rfl; have f51 := b5.free 1; clear hk1 hk2 hk3 hg5 b5)
        exact ⟨HK1.out, HK2.out, HK3.out⟩
      case done =>
        rintro D ys W hD hS ⟨⟨v, hbz, hown⟩, hB, hBW⟩ hK
        rw [hS] at hown
        obtain ⟨pa, pc, rfl, hpc, hrw⟩ := own_pr hown
        have HM2 := HM.out
        rw [HLK.out] at HM2
        have HL := Lib.hid (Nat.le_trans (colAcc_len (keepB n.apart (lo, hi) on) 24) (show 24 * 24 ≤ 140737488351232 by decide))
        generalize colAcc (keepB n.apart (lo, hi) on) 24 = l at *
        subst HM2
        have c0 := hbz.cell 0 rfl
        have c1 := hbz.cell 1 rfl
        have f0 := hbz.free 0
        have f1 := hbz.free 1
        have hU4 : w.heap.size + 1 < w4.heap.size := by omega
        have HD := Lib.hid (cut_done (U := w4) HFL.out hU4 hD hB hBW hK HR.out hpc HL.out hrw (.deferred none))
        have HKK := Lib.hid ((KeepsOthers.setCell _ ⟨w.heap.size + 1, 1, none⟩ (.slice pa l.length pc)).same D _ ((KeepsOthers.setCell W ⟨w.heap.size + 1, 0, none⟩ (.slice qa n.queue.length qc)).same D _ hK rfl) rfl)
        have BZ := (hbz.set 0 (.slice qa n.queue.length qc)).set 1 (.slice pa l.length pc)
        have hDne : w.heap.size + 1 ≠ D := by omega
        have HBP : Hid (Box (((W.setCell ⟨w.heap.size + 1, 0, none⟩ (.slice qa n.queue.length qc)).setCell ⟨w.heap.size + 1, 1, none⟩ (.slice pa l.length pc)).putObj D (.deferred none)) (w.heap.size + 1) #[.slice qa n.queue.length qc, .slice pa l.length pc] 25) := (World.putObj_heap_other hDne).trans (by simpa [Box] using BZ)
        clear hs4 hS hown hB hBW hK hpc hrw hbz BZ hDne hU4 x1 t0 t1 hUs hD
        go_wp2
        refine ⟨by simp, .inl ⟨_, _, rfl, run_takeDeferred HKK.out, ?_⟩⟩
        have BP := HBP.out
        exact ⟨.tuple #[.agg #[.slice qa n.queue.length qc, .slice pa l.length pc], .int .i64 0], by simp [results, Try.results20, go_sem, BP.cell 0 rfl, BP.cell 1 rfl], HD.out⟩
      case stop =>
        rintro D c pre W _ _ h _
        exact h.elim
end Go.Proofs.Ytmlhpchabnajkaa
