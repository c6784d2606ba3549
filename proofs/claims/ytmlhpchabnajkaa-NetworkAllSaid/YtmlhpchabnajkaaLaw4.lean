/- NetworkAll -/
import Derived.Test.YtmlhpchabnajkaaNet22
import Derived.Test.YtmlhpchabnajkaaNetAll
namespace Go.Proofs.Ytmlhpchabnajkaa
set_option linter.unusedSimpArgs false
set_option linter.unusedVariables false
open Go.RowKit
attribute [local go_sem ↓] Go.wp_at_zero Go.wp_at_succ
attribute [local go_sem] gquiet gquietAt sameUpon growUpon leB_true
set_option maxRecDepth 100000 in
set_option maxHeartbeats 9000000 in
theorem law4_any (l : List Pkt) (o : List UInt8) (a : Option Addr) (cap : Nat) (oa : Option Addr) (ocap : Nat) (w : World) (hr : Row 3 RPk w l a) (hl : l.length ≤ cap) (hb : l.length ≤ 140737488351232) (hro : Row 1 RU8 w o oa) (hlo : o.length ≤ ocap) (hbo : o.length ≤ 140737488351232) :
    Calls Try.prog 4 #[.slice a l.length cap, .slice oa o.length ocap] w (Gives (.bool true) w) := by
  have HRW := Lib.hid hr
  have HRO := Lib.hid hro
  clear hr hro
  unfold Gives
  go_enter Try.func4, Try.ntmps4
  have hx := sane_any w
  go_wp2_with fail
  refine hx.mono ?_
  rintro e v0 ⟨rfl, hb0⟩
  clear hx
  by_cases h12 : l.length ≤ 12
  · have h6 : ¬ (12 : Int) < (l.length : Int) := by omega
    have hx := nnew_any v0
    go_wp2_with fail
    refine hx.mono ?_
    rintro e v1 ⟨rfl, hb1⟩
    clear hx
    have hb2 : Below w.heap.size w v1 := hb0.trans (hb1.mono hb0.size)
    clear hb0 hb1
    go_wp2_with fail
    clear h6
    refine wp_name ?_
    intro W1 hW1
    have HV1 : Hid (Step [] v1 W1) := by
      rw [hW1]
      refine Lib.hid ?_
      repeat (first | (with_reducible exact (Step.refl [] v1)) | (with_reducible refine Step.drew ?_) | (with_reducible refine Step.drewN ?_ _) | (with_reducible refine Step.alloc ?_ _) | ((with_reducible apply Step.setE); focus (first | (left; simp; done) | (right; simp; done) | (right; simp; omega) | (right; dsimp only; omega) | (right; omega))))
    have HS1 : Hid (Step [] w W1) := Lib.hid ((Step.of_below hb2).trans HV1.out)
    have HBn : Hid (Box W1 (v1.heap.size) #[.slice none 0 0, .slice none 0 0] 25) := by
      rw [hW1]
      refine Lib.hid ?_
      repeat (first | (with_reducible exact Box.newE _ _ _ _ (by first | rfl | (simp; done))) | (with_reducible refine Box.drew ?_) | (with_reducible refine Box.drewN ?_ _) | (with_reducible refine Box.alloc ?_ _) | (with_reducible apply Box.setE) | ((with_reducible apply Box.otherE); first | (exact (by omega)) | (exact (by simp)) | (exact (by simp; omega))) | (exact (rfl : Array.setIfInBounds _ _ _ = _)))
    clear hW1
    have HR0 : Hid (SentRel w v1.heap.size W1.heap.size (.slice none 0 0) .nil [] 0 (.slice none 0 0) (.slice none 0 0) W1) := Lib.hid ⟨sent_start, HBn.out, rnet_nil _ _, sent_nil _ _ _, (Step.to_below HS1.out (noS w)), hb2.size, HBn.out.lt, Nat.le_refl _⟩
    clear hb2 HBn HV1 HS1
    go_loopw [6, 7] (fun v i wr => ∃ (k : Nat) (m : NetM) (rest : List Pkt) (c0 c1 : Value), k ≤ l.length ∧ rest.length ≤ k ∧ i = .int .i64 k ∧ Hid (m.queue = rest) ∧ Hid (SentRel w v1.heap.size W1.heap.size v m rest 0 c0 c1 wr)) (fun _ i _ => l.length - (intOf i).toNat)
    case atStart => exact ⟨0, .nil, [], _, _, Nat.zero_le _, by simp, rfl, rfl, HR0⟩
    case round =>
      obtain ⟨k, m, rest, c0, c1, hk, hrk, rfl, HQ, HR⟩ := hrel
      clear HR0
      by_cases hkl : k < l.length
      · obtain ⟨qa, qc, aa, ac, e⟩ := net_cells HR.out.net
        cases e
        obtain ⟨pb, po, pcs, rfl, hpb, hpr, hpc⟩ := HRW.out k hkl
        obtain ⟨da, dc, rfl, hpr'⟩ := hpr
        obtain ⟨p, hp⟩ : ∃ x, x = l[k] := ⟨_, rfl⟩
        rw [← hp] at hpr' hpc
        clear hp hpb
        have DP : Hid (RPk (DV v1.heap.size u6 wr) wr p [.int .i64 p.src, .int .i64 p.dst, .slice da p.data.length dc]) := Lib.hid (good_pk.keep HR.out.old (fun b hb => HR.out.by_.block b hb) (show RPk (Now w) w p [.int .i64 p.src, .int .i64 p.dst, .slice da p.data.length dc] from ⟨da, dc, rfl, hpr'⟩))
        have g0 : wr.cell? ⟨pb, po + k * 3, none⟩ = some (.int .i64 p.src) := below_cell HR.out.by_ (hpc 0 _ rfl)
        have g1 : wr.cell? ⟨pb, po + k * 3 + 1, none⟩ = some (.int .i64 p.dst) := below_cell HR.out.by_ (hpc 1 _ rfl)
        have g2 : wr.cell? ⟨pb, po + k * 3 + 2, none⟩ = some (.slice da p.data.length dc) := below_cell HR.out.by_ (hpc 2 _ rfl)
        have HPW : Hid (w.cell? ⟨pb, po + k * 3, none⟩ = some (.int .i64 p.src)) := Lib.hid (hpc 0 _ rfl)
        clear hpc hpr'
        have hk1 : (k : Int) < (l.length : Int) := by omega
        have hk0 : (0 : Int) ≤ (k : Int) := by omega
        have G0 := Lib.hid g0
        have G1 := Lib.hid g1
        have G2 := Lib.hid g2
        clear g0 g1 g2
        go_upto_region 10 with (fail)
        obtain ⟨X5, hX5⟩ : ∃ x, x = sendN m p := ⟨_, rfl⟩
        obtain ⟨E5, hE5⟩ : ∃ x, x = sendE m p := ⟨_, rfl⟩
        have HX5 := Lib.hid hX5
        clear hX5
        have HE5 := Lib.hid hE5
        clear hE5
        have x0 := HR.out.box.cell 0 rfl
        have x1 := HR.out.box.cell 1 rfl
        have r0 := fun q : LaterG LeB wr.drew => q.drewCell x0
        have r1 := fun q : LaterG LeB wr.drew => q.drewCell x1
        have r2 := fun q : LaterG LeB wr.drew => q.drewCell G0.out
        have r3 := fun q : LaterG LeB wr.drew => q.drewCell G1.out
        have r4 := fun q : LaterG LeB wr.drew => q.drewCell G2.out
        have HS : Hid (∀ V, Below wr.heap.size wr V → Calls Try.prog 11 #[.agg #[.slice qa m.queue.length qc, .slice aa m.apart.length ac], .agg #[.int .i64 p.src, .int .i64 p.dst, .slice da p.data.length dc]] V (NetRet (DV v1.heap.size u6 wr) X5 E5 V)) := Lib.hid (fun V hV => by
          rw [HX5.out, HE5.out]
          exact send_any m p qa qc aa ac da dc V (DV v1.heap.size u6 wr) (fun b hb => Nat.lt_of_lt_of_le hb.1 hV.size) (good_net.keep (fun _ h => h) (fun b hb => hV.block b hb.1) HR.out.net) (good_pk.keep (fun _ h => h) (fun b hb => hV.block b hb.1) DP.out))
        clear x0 x1
        have hst : ∀ e ∈ ([(5, TupD X5 E5), (6, TupD X5 E5), (7, AggD X5), (8, IntD E5)] : List (Nat × PropD)), StableD e.2 := (stable_cons (tupD_stable _ _) (stable_cons (tupD_stable _ _) (stable_cons (aggD_stable _) (stable_cons (intD_stable _) stable_nil))))
        have HST := Lib.hid hst
        clear hst
        refine wp_region_growI [0, 1, 2, 3, 4, 5, 6, 7, 8, 9] [8] [10, 11] LeB (CallI wr.heap.size (DV v1.heap.size u6 wr) 5 [(5, TupD X5 E5), (6, TupD X5 E5), (7, AggD X5), (8, IntD E5)] [(9, #[.slice none 0 0, .slice none 0 0], 25)]) (hvOf [(5, []), (6, [5]), (7, [6]), (8, [6]), (9, [])]) (by kernel_rfl) (by kernel_rfl) (by kernel_rfl) (callI_lawful HST.out) (leB_refl _) (callI_start (Nat.le_refl _)) (fun d v c a w h => by cases d <;> exact h) ?_
        simp only [pickOps, List.getElem?_cons_zero, List.getElem?_cons_succ, List.map_cons, List.map_nil]
        repeat (refine wpGI_step rfl (fun K hK => ?_); go_simp; refine hK _ ?_; clear hK K)
        refine wpGI_heavy rfl rfl (callI_call (Φ := TupD X5 E5) (Nat.le_refl _) (fun b h => h.1) (by intro e he h; simp only [List.mem_cons, List.not_mem_nil, or_false] at he; rcases he with rfl | rfl | rfl | rfl <;> first | rfl | exact absurd h (by simp)) (by intro e he; simp only [List.mem_cons, List.not_mem_nil, or_false] at he; rcases he with rfl <;> simp) (fun q => ?_)) (fun y5 => ?_)
        · go_simp
          refine (HS.out q.W q.below).mono ?_
          rintro e W'' ⟨qb1, qd1, ab1, ad1, rfl, hrn, hb⟩
          exact ⟨_, rfl, hb, qb1, qd1, ab1, ad1, rfl, hrn⟩
        simp only [Act.put, List.setIfInBounds_toArray, List.set_cons_zero, List.set_cons_succ]
        refine wpGI_heavy rfl rfl (callI_dep (j := 5) (Φ := TupD X5 E5) (Ψ := TupD X5 E5) (by simp) (by decide) (by intro e he h; simp only [List.mem_cons, List.not_mem_nil, or_false] at he; rcases he with rfl | rfl | rfl | rfl <;> first | rfl | exact absurd h (by simp)) (by intro e he; simp only [List.mem_cons, List.not_mem_nil, or_false] at he; rcases he with rfl <;> simp) (fun q D h => ?_)) (fun y6 => ?_)
        · obtain ⟨qb1, qd1, ab1, ad1, hv, hrn⟩ : TupD X5 E5 D y5 q.W := h
          subst hv
          go_simp
          exact ⟨qb1, qd1, ab1, ad1, rfl, hrn⟩
        simp only [Act.put, List.setIfInBounds_toArray, List.set_cons_zero, List.set_cons_succ]
        refine wpGI_heavy rfl rfl (callI_dep (j := 6) (Φ := TupD X5 E5) (Ψ := AggD X5) (by simp) (by decide) (by intro e he h; simp only [List.mem_cons, List.not_mem_nil, or_false] at he; rcases he with rfl | rfl | rfl | rfl <;> first | rfl | exact absurd h (by simp)) (by intro e he; simp only [List.mem_cons, List.not_mem_nil, or_false] at he; rcases he with rfl <;> simp) (fun q D h => ?_)) (fun y7 => ?_)
        · obtain ⟨qb1, qd1, ab1, ad1, hv, hrn⟩ : TupD X5 E5 D y6 q.W := h
          subst hv
          go_simp
          exact ⟨qb1, qd1, ab1, ad1, rfl, hrn⟩
        simp only [Act.put, List.setIfInBounds_toArray, List.set_cons_zero, List.set_cons_succ]
        refine wpGI_heavy rfl rfl (callI_dep (j := 6) (Φ := TupD X5 E5) (Ψ := IntD E5) (by simp) (by decide) (by intro e he h; simp only [List.mem_cons, List.not_mem_nil, or_false] at he; rcases he with rfl | rfl | rfl | rfl <;> first | rfl | exact absurd h (by simp)) (by intro e he; simp only [List.mem_cons, List.not_mem_nil, or_false] at he; rcases he with rfl <;> simp) (fun q D h => ?_)) (fun y8 => ?_)
        · obtain ⟨qb1, qd1, ab1, ad1, hv, hrn⟩ : TupD X5 E5 D y6 q.W := h
          subst hv
          go_simp
          rfl
        simp only [Act.put, List.setIfInBounds_toArray, List.set_cons_zero, List.set_cons_succ]
        refine wpGI_heavy rfl rfl (callI_alloc (cs := #[.slice none 0 0, .slice none 0 0]) (t := 25) (by decide) (by intro e he; simp only [List.mem_cons, List.not_mem_nil, or_false] at he; rcases he with rfl | rfl | rfl | rfl <;> simp) (by intro e he h; simp only [List.mem_cons, List.not_mem_nil, or_false] at he; rcases he with rfl <;> first | rfl | exact absurd h (by simp)) HST.out (fun q => ?_)) (fun y9 => ?_)
        · go_simp
          first | exact ⟨below_new _ _, trivial, trivial⟩ | exact ⟨below_new _ _, rfl, rfl⟩ | exact below_new _ _
        simp only [Act.put, List.setIfInBounds_toArray, List.set_cons_zero, List.set_cons_succ]
        refine wpGI_nil ?_
        intro q s hs hI
        obtain ⟨h1, ⟨D, h2, h3, h4⟩, h5⟩ := hI
        clear r0 r1 r2 r3 r4
        obtain ⟨qa5, qc5, aa5, ac5, hy7, hrn⟩ : AggD X5 D y7 q.W := (h3 (7, AggD X5) (by simp) (hs 7 (by simp) rfl)).2
        have hy8 : y8 = .int .i64 E5 := (h3 (8, IntD E5) (by simp) (hs 8 (by simp) rfl)).2
        obtain ⟨g7, hy9, hg70, hg7D, hg7⟩ : ∃ g, y9 = .pointer (some ⟨g, 0, none⟩) ∧ wr.heap.size ≤ g ∧ ¬ D g ∧ Box q.W g #[.slice none 0 0, .slice none 0 0] 25 := h4 (9, #[.slice none 0 0, .slice none 0 0], 25) (by simp) (hs 9 (by simp) rfl)
        subst hy7 hy8 hy9
        have hb11 := q.below
        have HRN := Lib.hid hrn
        have HG7 := Lib.hid hg7
        have HGD : Hid (∀ b, D b → b ≠ g7) := Lib.hid (fun b hb e => hg7D (by rw [← e]; exact hb))
        have HD2 := Lib.hid h2
        clear hs hrn hg7 h3 h4 hg7D h2 h5 h1 HS
        obtain ⟨v11, hby⟩ := q
        simp only at hb11 HRN HG7 HD2 ⊢
        clear hby
        have c70 := HG7.out.cell 0 rfl
        have f70 := HG7.out.free 0
        have c71 := HG7.out.cell 1 rfl
        have f71 := HG7.out.free 1
        go_upto_region 11 with (fail)
        clear c70 f70 c71 f71
        refine wp_name ?_
        intro U1 hW1
        have HV1 : Hid (Step [g7] v11 U1) := by
          rw [hW1]
          refine Lib.hid ?_
          repeat (first | (with_reducible exact (Step.refl [g7] v11)) | (with_reducible refine Step.drew ?_) | (with_reducible refine Step.drewN ?_ _) | (with_reducible refine Step.alloc ?_ _) | ((with_reducible apply Step.setE); focus (first | (left; simp; done) | (right; simp; done) | (right; simp; omega) | (right; dsimp only; omega) | (right; omega))))
        have HS1 : Hid (Step [] wr U1) := by
          rw [hW1]
          refine Lib.hid ?_
          repeat (first | (with_reducible exact (Step.of_below hb11)) | (with_reducible refine Step.drew ?_) | (with_reducible refine Step.drewN ?_ _) | (with_reducible refine Step.alloc ?_ _) | ((with_reducible apply Step.setE); focus (first | (left; simp; done) | (right; simp; done) | (right; simp; omega) | (right; dsimp only; omega) | (right; omega))))
        have HBVX : Hid (Box U1 (g7) #[.slice qa5 X5.queue.length qc5, .slice aa5 X5.apart.length ac5] 25) := by
          rw [hW1]
          refine Lib.hid ?_
          repeat (first | (with_reducible exact HG7.out) | (with_reducible exact Box.newE _ _ _ _ (by first | rfl | (simp; done))) | (with_reducible refine Box.drew ?_) | (with_reducible refine Box.drewN ?_ _) | (with_reducible refine Box.alloc ?_ _) | (with_reducible apply Box.setE) | ((with_reducible apply Box.otherE); first | (exact (by omega)) | (exact (by simp)) | (exact (by simp; omega))) | (exact (rfl : Array.setIfInBounds _ _ _ = _)))
        clear hW1
        have HRa := Lib.hid (HR.out.below (Step.to_below HS1.out (noS wr)))
        have HDX : Hid (RNet (DV v1.heap.size u6 U1) U1 X5 [.slice qa5 X5.queue.length qc5, .slice aa5 X5.apart.length ac5]) := Lib.hid (good_net.keep (HR.out.dv_call HD2.out HV1.out.size) (fun b hb => HV1.out.block b (HD2.out b hb).2 (by simpa using HGD.out b hb)) HRN.out)
        have DPa : Hid (RPk (DV v1.heap.size u6 U1) U1 p [.int .i64 p.src, .int .i64 p.dst, .slice da p.data.length dc]) := Lib.hid (good_pk.keep (fun b hb => ⟨Nat.lt_of_lt_of_le hb.1 HS1.out.size, hb.2⟩) (fun b hb => HS1.out.block b hb.1 (by simp)) DP.out)
        have H0a : Hid (U1.cell? ⟨pb, po + k * 3, none⟩ = some (.int .i64 p.src)) := Lib.hid (cell_step G0.out HS1.out)
        have H1a : Hid (U1.cell? ⟨pb, po + k * 3 + 1, none⟩ = some (.int .i64 p.dst)) := Lib.hid (cell_step G1.out HS1.out)
        have H2a : Hid (U1.cell? ⟨pb, po + k * 3 + 2, none⟩ = some (.slice da p.data.length dc)) := Lib.hid (cell_step G2.out HS1.out)
        clear hb11 HRN HG7 HGD HD2 G0 G1 G2 DP
        by_cases hE : E5 = 0
        · subst hE
          obtain ⟨i1, i2⟩ := all_send HR.out.inv HQ.out HE5.out.symm
          rw [← HX5.out] at i1 i2
          have I1 := Lib.hid i1
          have I2 := Lib.hid i2
          clear i1 i2
          go_upto_region 12 with (fail)
          have bx := HBVX.out
          have bn := HRa.out.box
          have z0 := bx.cell 0 rfl
          have z1 := bx.cell 1 rfl
          have y0 := bn.cell 0 rfl
          have y1 := bn.cell 1 rfl
          have fy0 := bn.free 0
          have fy1 := bn.free 1
          have BNB := Lib.hid bn
          clear bx bn
          go_upto_region 13 with (fail)
          clear z0 z1 y0 y1 fy0 fy1
          refine wp_name ?_
          intro Wn hWn
          obtain ⟨n1, n2, n3, n4, n5, n6, n7⟩ := store_parts BNB.out HR.out.lo HR.out.hi HRa.out.le HRa.out.by_ HDX.out HRa.out.sent hWn
          clear hWn BNB
          have N1 := Lib.hid n1
          have N2 := Lib.hid n2
          have N3 := Lib.hid n3
          have N4 := Lib.hid n4
          have N5 := Lib.hid n5
          have N6 := Lib.hid n6
          have N7 := Lib.hid n7
          clear n1 n2 n3 n4 n5 n6 n7
          have DN : Hid (RPk (DV v1.heap.size u6 Wn) Wn p [.int .i64 p.src, .int .i64 p.dst, .slice da p.data.length dc]) := Lib.hid (good_pk.keep (fun b hb => ⟨Nat.lt_of_lt_of_le hb.1 N6.out, hb.2⟩) (fun b hb => N7.out b hb.2.1) DPa.out)
          have hpn : pb ≠ v1.heap.size := by have h1 := World.block_lt_of_cell? _ _ (show w.cell? ⟨pb, po + k * 3, none⟩ = some (.int .i64 p.src) from HPW.out); have h2 := HR.out.lo; simp at h1; omega
          have e0 := cell_kept (N7.out pb hpn) H0a.out
          have e1 := cell_kept (N7.out pb hpn) H1a.out
          have e2 := cell_kept (N7.out pb hpn) H2a.out
          obtain ⟨xs, hown, hnews, hlen, hone, hpush⟩ := SentAt.push (cs := #[.int .i64 p.src, .int .i64 p.dst, .slice da p.data.length dc]) N3.out DN.out N5.out
          have HOW := Lib.hid hown
          have HNW := Lib.hid hnews
          have HLN := Lib.hid hlen
          have HON := Lib.hid hone
          have HPU := Lib.hid hpush
          clear hown hnews hlen hone hpush hpn
          have K3 : Hid (rest.length + 1 ≤ maxLen) := maxLen_le (by omega)
          have K4 : Hid ((rest.length + 1) * 40 ≤ 140737488355328) := Lib.hid (by omega)
          have K5 : Hid (W1.heap.size ≤ (Wn.alloc (.cells #[.int .i64 p.src, .int .i64 p.dst, .slice da p.data.length dc] 28)).heap.size) := le_alloc N5.out _
          go_wp2_with (at_builtin; refine wpList_app rfl _ _ rfl elemPk W1.heap.size _ _ _ rfl HOW.out _ 1 _ rfl (Source.cells _ _ _ _ rfl HLN.out HNW.out HON.out) (.inl rfl) K3.out K4.out K5.out ?_; intro v5 w5 hg5)
          obtain ⟨p1, p2, p3, p4⟩ := HPU.out v5 w5 hg5
          go_roundw
          case rel => exact ⟨k + 1, X5, rest ++ [p], _, _, by omega, by simp; omega, by go_num, I2, Lib.hid ⟨I1.out, (p2.block v1.heap.size HR.out.hi).trans N1.out, good_net.keep p4 (fun b hb => p3 b hb.1 hb.2.2) N2.out, p1, N4.out.trans (p2.mono (Nat.le_trans HR.out.lo (Nat.le_of_lt HR.out.hi))), HR.out.lo, HR.out.hi, Nat.le_trans N5.out p2.size⟩⟩
          case measure => simp [intOf]; omega
        · have hE1 : (E5 == 0) = false := by simpa using hE
          go_wp2_with fail
          go_roundw
          case rel => exact ⟨k + 1, m, rest, _, _, by omega, by omega, by go_num, HQ, HRa⟩
          case measure => simp [intOf]; omega
      · have hkl' : ¬ (k : Int) < (l.length : Int) := by omega
        go_wp2_with fail
        clear hkl'
        have hr12 : rest.length ≤ 12 := by omega
        obtain ⟨wo, rfl⟩ : ∃ wo : World, wo = wr := ⟨_, rfl⟩
        go_loopw [6, 10] (fun v i wr => ∃ (j : Nat) (m2 : NetM) (rest2 : List Pkt) (c2 c3 : Value), j + rest2.length ≤ 12 ∧ i = .int .i64 j ∧ Hid (m2.queue = rest2) ∧ Hid (SentRel w v1.heap.size W1.heap.size v m2 rest2 0 c2 c3 wr)) (fun v _ _ => match v with | .slice _ n _ => n | _ => 0)
        case atStart => exact ⟨0, m, rest, _, _, by omega, rfl, HQ, HR⟩
        case round =>
          clear HQ HR hr12 hrk
          obtain ⟨j, m2, rest2, c2, c3, hj12, rfl, HQ, HR⟩ := hrel
          obtain ⟨sa, scap, rfl, hsc, hsr⟩ := HR.out.sent.row
          have HSR := Lib.hid hsr
          clear hsr
          obtain ⟨qa, qc, aa, ac, e⟩ := net_cells HR.out.net
          cases e
          by_cases h0 : 0 < rest2.length
          · have h0' : (0 : Int) < (rest2.length : Int) := by omega
            have h0z : (rest2.length : Int) ≠ 0 := by omega
            by_cases hjo : j < o.length
            · have hjo1 : (j : Int) < (o.length : Int) := by omega
              have hjo0 : (0 : Int) ≤ (j : Int) := by omega
              obtain ⟨ob, oo, ocs, rfl, hob, hor, hoc⟩ := HRO.out j hjo
              unfold RU8 at hor
              subst hor
              have t0 : wr.cell? ⟨ob, oo + j, none⟩ = some (byteV o[j]) := below_cell HR.out.by_ (by have h := hoc 0 _ rfl; simpa using h)
              unfold byteV at t0
              obtain ⟨ov, hov⟩ : ∃ x : Nat, x = o[j].toNat := ⟨_, rfl⟩
              have lov : ov < 256 := hov ▸ UInt8.toNat_lt _
              rw [← hov] at t0
              clear hov hoc hob
              obtain ⟨i, hi⟩ : ∃ i : Nat, (ov : Int) % (rest2.length : Int) = (i : Int) := ⟨((ov : Int) % (rest2.length : Int)).toNat, (Int.toNat_of_nonneg (Int.emod_nonneg _ h0z)).symm⟩
              have li : i < rest2.length := by have := Int.emod_lt_of_pos (ov : Int) h0'; omega
              go_upto_region 20 with (fail)
              rw [hi]
              clear hjo1 hjo0 t0 hi
              obtain ⟨a1, a2, a3, a4⟩ := all_lose HR.out.inv HQ.out li
              obtain ⟨X5, hX5⟩ : ∃ x, x = loseN m2 (i : Int) := ⟨_, rfl⟩
              obtain ⟨P5, hP5⟩ : ∃ x, x = rest2[i] := ⟨_, rfl⟩
              rw [← hX5] at a3 a4
              rw [← hP5] at a2
              have A1 := Lib.hid a1
              have A2 := Lib.hid a2
              have A3 := Lib.hid a3
              have A4 := Lib.hid a4
              clear a1 a2 a3 a4
              obtain ⟨sb, so, scs, rfl, hsb, hsr, hsc'⟩ := HSR.out i li
              obtain ⟨da7, dc7, rfl, hsr'⟩ := hsr
              rw [← hP5] at hsr' hsc'
              have T0 : Hid (wr.cell? ⟨sb, so + i * 3, none⟩ = some (.int .i64 P5.src)) := Lib.hid (hsc' 0 _ rfl)
              have T1 : Hid (wr.cell? ⟨sb, so + i * 3 + 1, none⟩ = some (.int .i64 P5.dst)) := Lib.hid (hsc' 1 _ rfl)
              have T2 : Hid (wr.cell? ⟨sb, so + i * 3 + 2, none⟩ = some (.slice da7 P5.data.length dc7)) := Lib.hid (hsc' 2 _ rfl)
              have HROW := Lib.hid hsr'
              clear hsr' hsc' hsb
              have HX5 := Lib.hid hX5
              clear hX5
              have HP5 := Lib.hid hP5
              clear hP5
              have hx := deliver_any m2 (i : Int) qa qc aa ac wr (DV v1.heap.size (.slice (some ⟨sb, so, none⟩) rest2.length scap) wr) (fun b hb => hb.1) HR.out.net
              rw [A1.out, A2.out, ← HX5.out] at hx
              have x0 := HR.out.box.cell 0 rfl
              have x1 := HR.out.box.cell 1 rfl
              go_wp2_with fail
              refine hx.mono ?_
              rintro e v20 ⟨da5, dc5, qa5, qc5, aa5, ac5, rfl, hpk, hn, hb⟩
              clear hx
              clear x0 x1
              have HPK := Lib.hid hpk
              have HN := Lib.hid hn
              clear hpk hn
              go_upto_region 21 with (fail)
              refine wp_name ?_
              intro U1 hW1
              have HV1 : Hid (Step [] v20 U1) := by
                rw [hW1]
                refine Lib.hid ?_
                repeat (first | (with_reducible exact (Step.refl [] v20)) | (with_reducible refine Step.drew ?_) | (with_reducible refine Step.drewN ?_ _) | (with_reducible refine Step.alloc ?_ _) | ((with_reducible apply Step.setE); focus (first | (left; simp; done) | (right; simp; done) | (right; simp; omega) | (right; dsimp only; omega) | (right; omega))))
              have HS1 : Hid (Step [] wr U1) := Lib.hid ((Step.of_below hb).trans HV1.out)
              have HBVP : Hid (Box U1 (v20.heap.size) #[.int .i64 P5.src, .int .i64 P5.dst, .slice da5 P5.data.length dc5] 28) := by
                rw [hW1]
                refine Lib.hid ?_
                repeat (first | (with_reducible exact Box.newE _ _ _ _ (by first | rfl | (simp; done))) | (with_reducible refine Box.drew ?_) | (with_reducible refine Box.drewN ?_ _) | (with_reducible refine Box.alloc ?_ _) | (with_reducible apply Box.setE) | ((with_reducible apply Box.otherE); first | (exact (by omega)) | (exact (by simp)) | (exact (by simp; omega))) | (exact (rfl : Array.setIfInBounds _ _ _ = _)))
              have HBVX : Hid (Box U1 (v20.heap.size + 1) #[.slice qa5 X5.queue.length qc5, .slice aa5 X5.apart.length ac5] 25) := by
                rw [hW1]
                refine Lib.hid ?_
                repeat (first | (with_reducible exact Box.newE _ _ _ _ (by first | rfl | (simp; done))) | (with_reducible refine Box.drew ?_) | (with_reducible refine Box.drewN ?_ _) | (with_reducible refine Box.alloc ?_ _) | (with_reducible apply Box.setE) | ((with_reducible apply Box.otherE); first | (exact (by omega)) | (exact (by simp)) | (exact (by simp; omega))) | (exact (rfl : Array.setIfInBounds _ _ _ = _)))
              clear hW1
              have HRa := Lib.hid (HR.out.below (Step.to_below HS1.out (noS wr)))
              have hz20 : wr.heap.size ≤ v20.heap.size := hb.size
              have HDX : Hid (RNet (DV v1.heap.size (.slice (some ⟨sb, so, none⟩) rest2.length scap) U1) U1 X5 [.slice qa5 X5.queue.length qc5, .slice aa5 X5.apart.length ac5]) := Lib.hid (good_net.keep (fun b hb => HR.out.dv_call (V := v20) (W := U1) (D := Fr (DV v1.heap.size (.slice (some ⟨sb, so, none⟩) rest2.length scap) wr) wr v20) (fun b hb => hb) HV1.out.size b hb) (fun b hb => HV1.out.block b hb.2 (by simp)) HN.out)
              have HDP : Hid (RPk (Now U1) U1 P5 [.int .i64 P5.src, .int .i64 P5.dst, .slice da5 P5.data.length dc5]) := Lib.hid (good_pk.keep (fun b hb => Nat.lt_of_lt_of_le hb.2 HV1.out.size) (fun b hb => HV1.out.block b hb.2 (by simp)) HPK.out)
              clear hb HPK HN
              obtain ⟨_, _, e, _, _, _, _, rowP⟩ := HDP.out
              cases e
              obtain ⟨_, _, _, rows⟩ := HROW.out
              have C1 : Hid (∀ q : Later U1, Calls Try.prog 19 #[.agg #[.int .i64 P5.src, .int .i64 P5.dst, .slice da5 P5.data.length dc5], .agg #[.int .i64 P5.src, .int .i64 P5.dst, .slice da7 P5.data.length dc7]] q.W fun e w'' => e = .returned (.bool true) ∧ ∃ q' : Later U1, w'' = q'.W) := Lib.hid (fun q => by
                have h := samePkt_any P5 P5 da5 dc5 da7 dc7 q.W (rowP.below good_u8 q.by_) ((rows.2.keep good_u8 (fun b hb => Nat.lt_of_lt_of_le hb HS1.out.size) (fun b hb => HS1.out.block b hb (by simp)) : Row 1 RU8 U1 P5.data da7).below good_u8 q.by_)
                rw [samePktB_refl] at h
                exact later_of q h)
              clear rows rowP
              have u0_ := fun q : Later U1 => q.cell (HBVP.out.cell 0 rfl)
              have u1_ := fun q : Later U1 => q.cell (HBVP.out.cell 1 rfl)
              have u2_ := fun q : Later U1 => q.cell (HBVP.out.cell 2 rfl)
              have t0_ := fun q : Later U1 => q.cell (cell_step T0.out HS1.out)
              have t1_ := fun q : Later U1 => q.cell (cell_step T1.out HS1.out)
              have t2_ := fun q : Later U1 => q.cell (cell_step T2.out HS1.out)
              have li1 : (i : Int) < (rest2.length : Int) := by omega
              have li0 : (0 : Int) ≤ (i : Int) := by omega
              refine wp_region_later (by kernel_rfl) (by kernel_rfl) ?_
              repeat (first | go_big_quiet_skip | quiet_step (with_reducible exact C1.out _))
              refine wpQuiet_nil ?_
              intro _ hw'
              obtain ⟨⟨W9, hW9⟩, rfl⟩ := hw'
              rename_i V21
              clear u0_ t0_ u1_ t1_ u2_ t2_ C1
              go_upto_region 23 with (fail)
              clear li1 li0
              have HRb := Lib.hid (HRa.out.below hW9)
              have BXb := HBVX.out.below hW9
              have HXb := Lib.hid BXb
              clear BXb
              have HDXb : Hid (RNet (DV v1.heap.size (.slice (some ⟨sb, so, none⟩) rest2.length scap) V21) V21 X5 [.slice qa5 X5.queue.length qc5, .slice aa5 X5.apart.length ac5]) := Lib.hid (good_net.keep (dv_below hW9).1 (dv_below hW9).2 HDX.out)
              clear hW9
              have bx := HXb.out
              have bn := HRb.out.box
              have z0 := bx.cell 0 rfl
              have z1 := bx.cell 1 rfl
              have y0 := bn.cell 0 rfl
              have y1 := bn.cell 1 rfl
              have fy0 := bn.free 0
              have fy1 := bn.free 1
              have BNB := Lib.hid bn
              clear bx bn
              go_upto_region 24 with (fail)
              clear z0 z1 y0 y1 fy0 fy1
              refine wp_name ?_
              intro Wn hWn
              obtain ⟨n1, n2, n3, n4, n5, n6, n7⟩ := store_parts BNB.out HR.out.lo HR.out.hi HRb.out.le HRb.out.by_ HDXb.out HRb.out.sent hWn
              clear hWn BNB
              have N1 := Lib.hid n1
              have N2 := Lib.hid n2
              have N3 := Lib.hid n3
              have N4 := Lib.hid n4
              have N5 := Lib.hid n5
              have N6 := Lib.hid n6
              have N7 := Lib.hid n7
              clear n1 n2 n3 n4 n5 n6 n7
              obtain ⟨_, hrf⟩ := N3.out.rowF HR.out.hi
              have HRF := Lib.hid hrf
              clear hrf
              have HL1 : Hid ((rest2.take i).length = i) := by unfold Hid; simp; omega
              have HL2 : Hid ((rest2.drop (i + 1)).length = rest2.length - (i + 1)) := by unfold Hid; simp
              have B3 : Hid ((rest2.take i).length ≤ maxLen) := maxLen_le (by simp; omega)
              have B4 : Hid ((rest2.take i).length * 40 ≤ 140737488355328) := by unfold Hid; simp; omega
              have B1 : Hid ((rest2.take i).length + (rest2.drop (i + 1)).length ≤ maxLen) := maxLen_le (by simp; omega)
              have B2 : Hid (((rest2.take i).length + (rest2.drop (i + 1)).length) * 40 ≤ 140737488355328) := by unfold Hid; simp; omega
              have HXR : Hid (RRow 3 RPk (NB v1.heap.size Wn) Wn (rest2.drop (i + 1)) (if scap = i + 1 then some ⟨sb, so, none⟩ else some ⟨sb, so + (i + 1) * 3, none⟩)) := by
                have h := HRF.out.drop hsc (i + 1)
                unfold cutA at h
                unfold Hid
                by_cases hc : scap = i + 1
                · rw [if_pos hc] at h ⊢; exact h
                · rw [if_neg hc] at h ⊢
                  have h' : RRow 3 RPk (NB v1.heap.size Wn) Wn (rest2.drop (i + 1)) (some ⟨sb, so + (i + 1) * 3, none⟩) := by simpa [Addr.add] using h
                  exact h'
              have i1 : (i : Int) ≤ (scap : Int) := by omega
              have i2 : (i : Int) + 1 ≤ (rest2.length : Int) := by omega
              have i3 : (0 : Int) ≤ (i : Int) := by omega
              have i4 : (0 : Int) ≤ (i : Int) + 1 := by omega
              have i5 : ((i : Int) + 1).toNat = i + 1 := by omega
              have kw : IntKind.i64.wrap ((i : Int) + 1) = (i : Int) + 1 := IntWalk.i64_in _ (by omega)
              refine wp_region_growL [0, 1, 2, 3, 4, 5, 6, 7, 8] [] [9, 10] LeB (tbl [(0, NoneAt 28 Wn.heap.size), (4, OwnN RPk 3 28 Wn.heap.size (NB v1.heap.size Wn) (rest2.take i))]) (hvOf [(0, []), (4, [0])]) (by kernel_rfl) (by kernel_rfl) (by kernel_rfl) (lawful_cons (noneAt_stable _ _) (lawful_cons (ownN_stable good_pk _ _ _ _) lawful_nil)) (leB_refl _) (fun d v c a w h => by cases d <;> exact h) ?_
              simp only [pickOps, List.getElem?_cons_zero, List.getElem?_cons_succ, List.map_cons, List.map_nil]
              refine wpG_heavy rfl rfl (fun q _ => ?_) (fun y0 => ?_)
              · go_simp
                exact ⟨below_new _ _, q.W.heap.size, rfl, q.below.size, Box.new _ _ _⟩
              simp only [Act.put, List.setIfInBounds_toArray, List.set_cons_zero, List.set_cons_succ]
              repeat (refine wpG_step rfl (fun K hK => ?_); go_simp; refine hK _ ?_; clear hK K)
              refine wpG_heavy rfl rfl (fun q hq => ?_) (fun y4 => ?_)
              · have h0 : NoneAt 28 Wn.heap.size y0 q.W := hq 0 (by simp)
                have hrq : RRow 3 RPk (NB v1.heap.size Wn) q.W (rest2.take i) (some ⟨sb, so, none⟩) := (good_row_same good_pk (fun b hb => hb.1) q.below HRF.out).take i
                obtain ⟨news, hS, hcl⟩ := Source.row' (P := Try.prog) (t := 22) (cap := scap) good_pk hrq
                have hS' : Source Try.prog 22 22 3 q.W (.slice (some ⟨sb, so, none⟩) i scap) (rest2.take i).length news := by rw [HL1.out] at hS ⊢; exact hS
                exact grow_empty good_pk (.tmp 82) (.tmp 85) rfl elemPk y0 rfl h0 q.below.size (fun b hb => hb.1) _ news rfl hS' hcl B3.out B4.out
              simp only [Act.put, List.setIfInBounds_toArray, List.set_cons_zero, List.set_cons_succ]
              repeat (refine wpG_step rfl (fun K hK => ?_); go_simp; refine hK _ ?_; clear hK K)
              refine wpG_nil ?_
              intro q hf
              obtain ⟨hN, hFB, xs, ho3, hc3⟩ : OwnN RPk 3 28 Wn.heap.size (NB v1.heap.size Wn) (rest2.take i) y4 q.W := hf 4 [0] (by simp) rfl
              have hrq := good_row_same good_pk (fun b hb => hb.1) q.below HXR.out
              obtain ⟨news, hS, hcl⟩ := Source.row' (P := Try.prog) (t := 22) (cap := scap - (i + 1)) good_pk hrq
              have HS5 : Hid (Source Try.prog 22 22 3 q.W (.slice (if scap = i + 1 then some ⟨sb, so, none⟩ else some ⟨sb, so + (i + 1) * 3, none⟩) (rest2.length - (i + 1)) (scap - (i + 1))) (rest2.drop (i + 1)).length news) := by unfold Hid; rw [HL2.out] at hS ⊢; exact hS
              have HGR : Hid (∀ v' W', Grew Wn.heap.size 28 3 q.W y4 v' ((rest2.take i).length + (rest2.drop (i + 1)).length) (xs ++ news) W' → OwnN RPk 3 28 Wn.heap.size (NB v1.heap.size Wn) (rest2.take i ++ rest2.drop (i + 1)) v' W' ∧ Below Wn.heap.size Wn W') := fun v' W' hg =>
                ⟨OwnN.grew good_pk hN hFB ho3 hc3 hcl hg, q.below.trans (hg.below q.below.size (fun g e => (ho3.lt g e).1))⟩
              have HO3 := Lib.hid ho3
              have hszq : Wn.heap.size ≤ q.W.heap.size := q.below.size
              clear hf ho3 hc3 hN hFB kw i5 i4 i3 i2 i1 hrq hS hcl
              obtain ⟨w3, W3by⟩ := q
              simp only at HS5 HGR HO3 hszq ⊢
              clear W3by
              go_wp2_with (at_builtin; refine wpList_app rfl _ _ rfl elemPk Wn.heap.size _ _ _ rfl HO3.out _ _ _ rfl HS5.out (.inl rfl) B1.out B2.out hszq ?_; intro v6 w4 hg6)
              obtain ⟨hown6, hb6⟩ := HGR.out v6 w4 hg6
              obtain ⟨s1, s2⟩ := SentAt.of_new hown6 N5.out
              obtain ⟨ao', cap', hv', _, _⟩ := hown6.row good_pk
              have S2 := Lib.hid (s2 (.slice (some ⟨sb, so, none⟩) rest2.length scap))
              have S1 := Lib.hid s1
              have HB6 := Lib.hid hb6
              clear hown6 hg6 s1 s2 hb6 hszq
              obtain ⟨L, hL⟩ : ∃ L, (rest2.take i ++ rest2.drop (i + 1)).length = L := ⟨_, rfl⟩
              rw [hL] at hv'
              have hl2 : L = i + (rest2.length - (i + 1)) := by rw [← hL, List.length_append, HL1.out, HL2.out]
              subst hv'
              have HL := Lib.hid hL
              clear hL
              go_roundw
              case rel => exact ⟨j + 1, X5, rest2.take i ++ rest2.drop (i + 1), _, _, by rw [HL.out]; omega, by go_num, A4, Lib.hid ⟨A3.out, (HB6.out.block v1.heap.size (Nat.lt_of_lt_of_le HR.out.hi N5.out)).trans N1.out, good_net.keep S2.out (fun b hb => HB6.out.block b hb.1) N2.out, S1.out, N4.out.trans (HB6.out.mono N4.out.size), HR.out.lo, HR.out.hi, Nat.le_trans N5.out HB6.out.size⟩⟩
              case measure => show L < rest2.length; omega
            · have hjo1 : ¬ (j : Int) < (o.length : Int) := by omega
              go_upto_region 20 with (fail)
              refine wp_slot 11 (.int .i64 0) rfl ?_
              intro vi hvi
              obtain ⟨i, hi, i0⟩ : ∃ i : Nat, vi = .int .i64 (i : Int) ∧ i = 0 := ⟨0, hvi, rfl⟩
              clear hvi
              subst hi
              have li : i < rest2.length := by omega
              clear hjo1 i0
              simp only [List.setIfInBounds_toArray, List.set_cons_zero, List.set_cons_succ]
              obtain ⟨a1, a2, a3, a4⟩ := all_lose HR.out.inv HQ.out li
              obtain ⟨X5, hX5⟩ : ∃ x, x = loseN m2 (i : Int) := ⟨_, rfl⟩
              obtain ⟨P5, hP5⟩ : ∃ x, x = rest2[i] := ⟨_, rfl⟩
              rw [← hX5] at a3 a4
              rw [← hP5] at a2
              have A1 := Lib.hid a1
              have A2 := Lib.hid a2
              have A3 := Lib.hid a3
              have A4 := Lib.hid a4
              clear a1 a2 a3 a4
              obtain ⟨sb, so, scs, rfl, hsb, hsr, hsc'⟩ := HSR.out i li
              obtain ⟨da7, dc7, rfl, hsr'⟩ := hsr
              rw [← hP5] at hsr' hsc'
              have T0 : Hid (wr.cell? ⟨sb, so + i * 3, none⟩ = some (.int .i64 P5.src)) := Lib.hid (hsc' 0 _ rfl)
              have T1 : Hid (wr.cell? ⟨sb, so + i * 3 + 1, none⟩ = some (.int .i64 P5.dst)) := Lib.hid (hsc' 1 _ rfl)
              have T2 : Hid (wr.cell? ⟨sb, so + i * 3 + 2, none⟩ = some (.slice da7 P5.data.length dc7)) := Lib.hid (hsc' 2 _ rfl)
              have HROW := Lib.hid hsr'
              clear hsr' hsc' hsb
              have HX5 := Lib.hid hX5
              clear hX5
              have HP5 := Lib.hid hP5
              clear hP5
              have hx := deliver_any m2 (i : Int) qa qc aa ac wr (DV v1.heap.size (.slice (some ⟨sb, so, none⟩) rest2.length scap) wr) (fun b hb => hb.1) HR.out.net
              rw [A1.out, A2.out, ← HX5.out] at hx
              have x0 := HR.out.box.cell 0 rfl
              have x1 := HR.out.box.cell 1 rfl
              go_wp2_with fail
              refine hx.mono ?_
              rintro e v20 ⟨da5, dc5, qa5, qc5, aa5, ac5, rfl, hpk, hn, hb⟩
              clear hx
              clear x0 x1
              have HPK := Lib.hid hpk
              have HN := Lib.hid hn
              clear hpk hn
              go_upto_region 21 with (fail)
              refine wp_name ?_
              intro U1 hW1
              have HV1 : Hid (Step [] v20 U1) := by
                rw [hW1]
                refine Lib.hid ?_
                repeat (first | (with_reducible exact (Step.refl [] v20)) | (with_reducible refine Step.drew ?_) | (with_reducible refine Step.drewN ?_ _) | (with_reducible refine Step.alloc ?_ _) | ((with_reducible apply Step.setE); focus (first | (left; simp; done) | (right; simp; done) | (right; simp; omega) | (right; dsimp only; omega) | (right; omega))))
              have HS1 : Hid (Step [] wr U1) := Lib.hid ((Step.of_below hb).trans HV1.out)
              have HBVP : Hid (Box U1 (v20.heap.size) #[.int .i64 P5.src, .int .i64 P5.dst, .slice da5 P5.data.length dc5] 28) := by
                rw [hW1]
                refine Lib.hid ?_
                repeat (first | (with_reducible exact Box.newE _ _ _ _ (by first | rfl | (simp; done))) | (with_reducible refine Box.drew ?_) | (with_reducible refine Box.drewN ?_ _) | (with_reducible refine Box.alloc ?_ _) | (with_reducible apply Box.setE) | ((with_reducible apply Box.otherE); first | (exact (by omega)) | (exact (by simp)) | (exact (by simp; omega))) | (exact (rfl : Array.setIfInBounds _ _ _ = _)))
              have HBVX : Hid (Box U1 (v20.heap.size + 1) #[.slice qa5 X5.queue.length qc5, .slice aa5 X5.apart.length ac5] 25) := by
                rw [hW1]
                refine Lib.hid ?_
                repeat (first | (with_reducible exact Box.newE _ _ _ _ (by first | rfl | (simp; done))) | (with_reducible refine Box.drew ?_) | (with_reducible refine Box.drewN ?_ _) | (with_reducible refine Box.alloc ?_ _) | (with_reducible apply Box.setE) | ((with_reducible apply Box.otherE); first | (exact (by omega)) | (exact (by simp)) | (exact (by simp; omega))) | (exact (rfl : Array.setIfInBounds _ _ _ = _)))
              clear hW1
              have HRa := Lib.hid (HR.out.below (Step.to_below HS1.out (noS wr)))
              have hz20 : wr.heap.size ≤ v20.heap.size := hb.size
              have HDX : Hid (RNet (DV v1.heap.size (.slice (some ⟨sb, so, none⟩) rest2.length scap) U1) U1 X5 [.slice qa5 X5.queue.length qc5, .slice aa5 X5.apart.length ac5]) := Lib.hid (good_net.keep (fun b hb => HR.out.dv_call (V := v20) (W := U1) (D := Fr (DV v1.heap.size (.slice (some ⟨sb, so, none⟩) rest2.length scap) wr) wr v20) (fun b hb => hb) HV1.out.size b hb) (fun b hb => HV1.out.block b hb.2 (by simp)) HN.out)
              have HDP : Hid (RPk (Now U1) U1 P5 [.int .i64 P5.src, .int .i64 P5.dst, .slice da5 P5.data.length dc5]) := Lib.hid (good_pk.keep (fun b hb => Nat.lt_of_lt_of_le hb.2 HV1.out.size) (fun b hb => HV1.out.block b hb.2 (by simp)) HPK.out)
              clear hb HPK HN
              obtain ⟨_, _, e, _, _, _, _, rowP⟩ := HDP.out
              cases e
              obtain ⟨_, _, _, rows⟩ := HROW.out
              have C1 : Hid (∀ q : Later U1, Calls Try.prog 19 #[.agg #[.int .i64 P5.src, .int .i64 P5.dst, .slice da5 P5.data.length dc5], .agg #[.int .i64 P5.src, .int .i64 P5.dst, .slice da7 P5.data.length dc7]] q.W fun e w'' => e = .returned (.bool true) ∧ ∃ q' : Later U1, w'' = q'.W) := Lib.hid (fun q => by
                have h := samePkt_any P5 P5 da5 dc5 da7 dc7 q.W (rowP.below good_u8 q.by_) ((rows.2.keep good_u8 (fun b hb => Nat.lt_of_lt_of_le hb HS1.out.size) (fun b hb => HS1.out.block b hb (by simp)) : Row 1 RU8 U1 P5.data da7).below good_u8 q.by_)
                rw [samePktB_refl] at h
                exact later_of q h)
              clear rows rowP
              have u0_ := fun q : Later U1 => q.cell (HBVP.out.cell 0 rfl)
              have u1_ := fun q : Later U1 => q.cell (HBVP.out.cell 1 rfl)
              have u2_ := fun q : Later U1 => q.cell (HBVP.out.cell 2 rfl)
              have t0_ := fun q : Later U1 => q.cell (cell_step T0.out HS1.out)
              have t1_ := fun q : Later U1 => q.cell (cell_step T1.out HS1.out)
              have t2_ := fun q : Later U1 => q.cell (cell_step T2.out HS1.out)
              have li1 : (i : Int) < (rest2.length : Int) := by omega
              have li0 : (0 : Int) ≤ (i : Int) := by omega
              refine wp_region_later (by kernel_rfl) (by kernel_rfl) ?_
              repeat (first | go_big_quiet_skip | quiet_step (with_reducible exact C1.out _))
              refine wpQuiet_nil ?_
              intro _ hw'
              obtain ⟨⟨W9, hW9⟩, rfl⟩ := hw'
              rename_i V21
              clear u0_ t0_ u1_ t1_ u2_ t2_ C1
              go_upto_region 23 with (fail)
              clear li1 li0
              have HRb := Lib.hid (HRa.out.below hW9)
              have BXb := HBVX.out.below hW9
              have HXb := Lib.hid BXb
              clear BXb
              have HDXb : Hid (RNet (DV v1.heap.size (.slice (some ⟨sb, so, none⟩) rest2.length scap) V21) V21 X5 [.slice qa5 X5.queue.length qc5, .slice aa5 X5.apart.length ac5]) := Lib.hid (good_net.keep (dv_below hW9).1 (dv_below hW9).2 HDX.out)
              clear hW9
              have bx := HXb.out
              have bn := HRb.out.box
              have z0 := bx.cell 0 rfl
              have z1 := bx.cell 1 rfl
              have y0 := bn.cell 0 rfl
              have y1 := bn.cell 1 rfl
              have fy0 := bn.free 0
              have fy1 := bn.free 1
              have BNB := Lib.hid bn
              clear bx bn
              go_upto_region 24 with (fail)
              clear z0 z1 y0 y1 fy0 fy1
              refine wp_name ?_
              intro Wn hWn
              obtain ⟨n1, n2, n3, n4, n5, n6, n7⟩ := store_parts BNB.out HR.out.lo HR.out.hi HRb.out.le HRb.out.by_ HDXb.out HRb.out.sent hWn
              clear hWn BNB
              have N1 := Lib.hid n1
              have N2 := Lib.hid n2
              have N3 := Lib.hid n3
              have N4 := Lib.hid n4
              have N5 := Lib.hid n5
              have N6 := Lib.hid n6
              have N7 := Lib.hid n7
              clear n1 n2 n3 n4 n5 n6 n7
              obtain ⟨_, hrf⟩ := N3.out.rowF HR.out.hi
              have HRF := Lib.hid hrf
              clear hrf
              have HL1 : Hid ((rest2.take i).length = i) := by unfold Hid; simp; omega
              have HL2 : Hid ((rest2.drop (i + 1)).length = rest2.length - (i + 1)) := by unfold Hid; simp
              have B3 : Hid ((rest2.take i).length ≤ maxLen) := maxLen_le (by simp; omega)
              have B4 : Hid ((rest2.take i).length * 40 ≤ 140737488355328) := by unfold Hid; simp; omega
              have B1 : Hid ((rest2.take i).length + (rest2.drop (i + 1)).length ≤ maxLen) := maxLen_le (by simp; omega)
              have B2 : Hid (((rest2.take i).length + (rest2.drop (i + 1)).length) * 40 ≤ 140737488355328) := by unfold Hid; simp; omega
              have HXR : Hid (RRow 3 RPk (NB v1.heap.size Wn) Wn (rest2.drop (i + 1)) (if scap = i + 1 then some ⟨sb, so, none⟩ else some ⟨sb, so + (i + 1) * 3, none⟩)) := by
                have h := HRF.out.drop hsc (i + 1)
                unfold cutA at h
                unfold Hid
                by_cases hc : scap = i + 1
                · rw [if_pos hc] at h ⊢; exact h
                · rw [if_neg hc] at h ⊢
                  have h' : RRow 3 RPk (NB v1.heap.size Wn) Wn (rest2.drop (i + 1)) (some ⟨sb, so + (i + 1) * 3, none⟩) := by simpa [Addr.add] using h
                  exact h'
              have i1 : (i : Int) ≤ (scap : Int) := by omega
              have i2 : (i : Int) + 1 ≤ (rest2.length : Int) := by omega
              have i3 : (0 : Int) ≤ (i : Int) := by omega
              have i4 : (0 : Int) ≤ (i : Int) + 1 := by omega
              have i5 : ((i : Int) + 1).toNat = i + 1 := by omega
              have kw : IntKind.i64.wrap ((i : Int) + 1) = (i : Int) + 1 := IntWalk.i64_in _ (by omega)
              refine wp_region_growL [0, 1, 2, 3, 4, 5, 6, 7, 8] [] [9, 10] LeB (tbl [(0, NoneAt 28 Wn.heap.size), (4, OwnN RPk 3 28 Wn.heap.size (NB v1.heap.size Wn) (rest2.take i))]) (hvOf [(0, []), (4, [0])]) (by kernel_rfl) (by kernel_rfl) (by kernel_rfl) (lawful_cons (noneAt_stable _ _) (lawful_cons (ownN_stable good_pk _ _ _ _) lawful_nil)) (leB_refl _) (fun d v c a w h => by cases d <;> exact h) ?_
              simp only [pickOps, List.getElem?_cons_zero, List.getElem?_cons_succ, List.map_cons, List.map_nil]
              refine wpG_heavy rfl rfl (fun q _ => ?_) (fun y0 => ?_)
              · go_simp
                exact ⟨below_new _ _, q.W.heap.size, rfl, q.below.size, Box.new _ _ _⟩
              simp only [Act.put, List.setIfInBounds_toArray, List.set_cons_zero, List.set_cons_succ]
              repeat (refine wpG_step rfl (fun K hK => ?_); go_simp; refine hK _ ?_; clear hK K)
              refine wpG_heavy rfl rfl (fun q hq => ?_) (fun y4 => ?_)
              · have h0 : NoneAt 28 Wn.heap.size y0 q.W := hq 0 (by simp)
                have hrq : RRow 3 RPk (NB v1.heap.size Wn) q.W (rest2.take i) (some ⟨sb, so, none⟩) := (good_row_same good_pk (fun b hb => hb.1) q.below HRF.out).take i
                obtain ⟨news, hS, hcl⟩ := Source.row' (P := Try.prog) (t := 22) (cap := scap) good_pk hrq
                have hS' : Source Try.prog 22 22 3 q.W (.slice (some ⟨sb, so, none⟩) i scap) (rest2.take i).length news := by rw [HL1.out] at hS ⊢; exact hS
                exact grow_empty good_pk (.tmp 82) (.tmp 85) rfl elemPk y0 rfl h0 q.below.size (fun b hb => hb.1) _ news rfl hS' hcl B3.out B4.out
              simp only [Act.put, List.setIfInBounds_toArray, List.set_cons_zero, List.set_cons_succ]
              repeat (refine wpG_step rfl (fun K hK => ?_); go_simp; refine hK _ ?_; clear hK K)
              refine wpG_nil ?_
              intro q hf
              obtain ⟨hN, hFB, xs, ho3, hc3⟩ : OwnN RPk 3 28 Wn.heap.size (NB v1.heap.size Wn) (rest2.take i) y4 q.W := hf 4 [0] (by simp) rfl
              have hrq := good_row_same good_pk (fun b hb => hb.1) q.below HXR.out
              obtain ⟨news, hS, hcl⟩ := Source.row' (P := Try.prog) (t := 22) (cap := scap - (i + 1)) good_pk hrq
              have HS5 : Hid (Source Try.prog 22 22 3 q.W (.slice (if scap = i + 1 then some ⟨sb, so, none⟩ else some ⟨sb, so + (i + 1) * 3, none⟩) (rest2.length - (i + 1)) (scap - (i + 1))) (rest2.drop (i + 1)).length news) := by unfold Hid; rw [HL2.out] at hS ⊢; exact hS
              have HGR : Hid (∀ v' W', Grew Wn.heap.size 28 3 q.W y4 v' ((rest2.take i).length + (rest2.drop (i + 1)).length) (xs ++ news) W' → OwnN RPk 3 28 Wn.heap.size (NB v1.heap.size Wn) (rest2.take i ++ rest2.drop (i + 1)) v' W' ∧ Below Wn.heap.size Wn W') := fun v' W' hg =>
                ⟨OwnN.grew good_pk hN hFB ho3 hc3 hcl hg, q.below.trans (hg.below q.below.size (fun g e => (ho3.lt g e).1))⟩
              have HO3 := Lib.hid ho3
              have hszq : Wn.heap.size ≤ q.W.heap.size := q.below.size
              clear hf ho3 hc3 hN hFB kw i5 i4 i3 i2 i1 hrq hS hcl
              obtain ⟨w3, W3by⟩ := q
              simp only at HS5 HGR HO3 hszq ⊢
              clear W3by
              go_wp2_with (at_builtin; refine wpList_app rfl _ _ rfl elemPk Wn.heap.size _ _ _ rfl HO3.out _ _ _ rfl HS5.out (.inl rfl) B1.out B2.out hszq ?_; intro v6 w4 hg6)
              obtain ⟨hown6, hb6⟩ := HGR.out v6 w4 hg6
              obtain ⟨s1, s2⟩ := SentAt.of_new hown6 N5.out
              obtain ⟨ao', cap', hv', _, _⟩ := hown6.row good_pk
              have S2 := Lib.hid (s2 (.slice (some ⟨sb, so, none⟩) rest2.length scap))
              have S1 := Lib.hid s1
              have HB6 := Lib.hid hb6
              clear hown6 hg6 s1 s2 hb6 hszq
              obtain ⟨L, hL⟩ : ∃ L, (rest2.take i ++ rest2.drop (i + 1)).length = L := ⟨_, rfl⟩
              rw [hL] at hv'
              have hl2 : L = i + (rest2.length - (i + 1)) := by rw [← hL, List.length_append, HL1.out, HL2.out]
              subst hv'
              have HL := Lib.hid hL
              clear hL
              go_roundw
              case rel => exact ⟨j + 1, X5, rest2.take i ++ rest2.drop (i + 1), _, _, by rw [HL.out]; omega, by go_num, A4, Lib.hid ⟨A3.out, (HB6.out.block v1.heap.size (Nat.lt_of_lt_of_le HR.out.hi N5.out)).trans N1.out, good_net.keep S2.out (fun b hb => HB6.out.block b hb.1) N2.out, S1.out, N4.out.trans (HB6.out.mono N4.out.size), HR.out.lo, HR.out.hi, Nat.le_trans N5.out HB6.out.size⟩⟩
              case measure => show L < rest2.length; omega
          · have h0' : ¬ (0 : Int) < (rest2.length : Int) := by omega
            have hq0 : ((m2.queue.length : Int) == 0) = true := by have h := HQ.out; rw [h, beq_iff_eq]; omega
            have x0 := HR.out.box.cell 0 rfl
            go_wp2
            go_ret
            exact ⟨rfl, HR.out.by_⟩
  · have h6 : (12 : Int) < (l.length : Int) := by omega
    go_wp2
    go_ret
    exact ⟨rfl, hb0⟩
end Go.Proofs.Ytmlhpchabnajkaa
