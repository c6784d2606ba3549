/- NetworkOnlySent -/
import Derived.Test.YtmlhpchabnajkaaNet22
import Derived.Test.YtmlhpchabnajkaaNetOS
namespace Go.Proofs.Ytmlhpchabnajkaa
set_option linter.unusedSimpArgs false
set_option linter.unusedVariables false
open Go.RowKit
attribute [local go_sem ↓] Go.wp_at_zero Go.wp_at_succ
attribute [local go_sem] gquiet gquietAt sameUpon growUpon leB_true
set_option maxRecDepth 100000 in
set_option maxHeartbeats 9000000 in
theorem law7_any (l : List Mv) (a : Option Addr) (cap : Nat) (w : World) (hr : Row 5 RMv w l a) (hl : l.length ≤ cap) (hb : l.length ≤ 140737488351232) :
    Calls Try.prog 7 #[.slice a l.length cap] w (Gives (.bool true) w) := by
  have HRW := Lib.hid hr
  clear hr
  unfold Gives
  go_enter Try.func7, Try.ntmps7
  have hx := sane_any w
  go_wp2_with fail
  refine hx.mono ?_
  rintro e v0 ⟨rfl, hb0⟩
  clear hx
  by_cases h60 : l.length ≤ 60
  · have h6 : ¬ (60 : Int) < (l.length : Int) := by omega
    have hx := nnew_any v0
    go_wp2_with fail
    refine hx.mono ?_
    rintro e v1 ⟨rfl, hb1⟩
    clear hx
    have hb2 : Below w.heap.size w v1 := hb0.trans (hb1.mono hb0.size)
    clear hb0 hb1
    go_wp2_with fail
    clear h6
    refine wp_name ?_
    intro W1 hW1
    have HV1 : Hid (Step [] v1 W1) := by
      rw [hW1]
      refine Lib.hid ?_
      repeat (first | (with_reducible exact (Step.refl [] v1)) | (with_reducible refine Step.drew ?_) | (with_reducible refine Step.drewN ?_ _) | (with_reducible refine Step.alloc ?_ _) | ((with_reducible apply Step.setE); focus (first | (left; simp; done) | (right; simp; done) | (right; simp; omega) | (right; dsimp only; omega) | (right; omega))))
    have HS1 : Hid (Step [] w W1) := Lib.hid ((Step.of_below hb2).trans HV1.out)
    have HBn : Hid (Box W1 (v1.heap.size) #[.slice none 0 0, .slice none 0 0] 25) := by
      rw [hW1]
      refine Lib.hid ?_
      repeat (first | (with_reducible exact Box.newE _ _ _ _ (by first | rfl | (simp; done))) | (with_reducible refine Box.drew ?_) | (with_reducible refine Box.drewN ?_ _) | (with_reducible refine Box.alloc ?_ _) | (with_reducible apply Box.setE) | ((with_reducible apply Box.otherE); first | (exact (by omega)) | (exact (by simp)) | (exact (by simp; omega))) | (exact (rfl : Array.setIfInBounds _ _ _ = _)))
    clear hW1
    have HR0 : Hid (SentRel w v1.heap.size W1.heap.size (.slice none 0 0) .nil [] 0 (.slice none 0 0) (.slice none 0 0) W1) := Lib.hid ⟨sent_start, HBn.out, rnet_nil _ _, sent_nil _ _ _, (Step.to_below HS1.out (noS w)), hb2.size, HBn.out.lt, Nat.le_refl _⟩
    clear hb2 HBn HV1 HS1
    go_loopw [4, 5, 6] (fun v c i wr => ∃ (k : Nat) (m : NetM) (sent : List Pkt) (cuts : Nat) (c0 c1 : Value), k ≤ l.length ∧ cuts ≤ k ∧ sent.length ≤ k ∧ i = .int .i64 k ∧ c = .int .i64 cuts ∧ Hid (SentRel w v1.heap.size W1.heap.size v m sent cuts c0 c1 wr)) (fun _ _ i _ => l.length - (intOf i).toNat)
    case atStart => exact ⟨0, .nil, [], 0, _, _, Nat.zero_le _, Nat.le_refl _, by simp, rfl, rfl, HR0⟩
    case round =>
      obtain ⟨k, m, sent, cuts, c0, c1, hk, hck, hsk, rfl, rfl, HR⟩ := hrel
      clear HR0
      by_cases hkl : k < l.length
      · obtain ⟨qa, qc, aa, ac, e⟩ := net_cells HR.out.net
        cases e
        obtain ⟨mb, mo, mcs, rfl, hmb, hme, hmc⟩ := HRW.out k hkl
        unfold RMv at hme
        subst hme
        obtain ⟨mv, hmv⟩ : ∃ x, x = l[k] := ⟨_, rfl⟩
        rw [← hmv] at hmc
        clear hmv hmb
        have g0 : wr.cell? ⟨mb, mo + k * 5 + 0, none⟩ = some (byteV mv.kind) := below_cell HR.out.by_ (hmc 0 _ rfl)
        have g1 : wr.cell? ⟨mb, mo + k * 5 + 1, none⟩ = some (byteV mv.at_) := below_cell HR.out.by_ (hmc 1 _ rfl)
        have g2 : wr.cell? ⟨mb, mo + k * 5 + 2, none⟩ = some (byteV mv.a) := below_cell HR.out.by_ (hmc 2 _ rfl)
        have g3 : wr.cell? ⟨mb, mo + k * 5 + 3, none⟩ = some (byteV mv.b) := below_cell HR.out.by_ (hmc 3 _ rfl)
        have g4 : wr.cell? ⟨mb, mo + k * 5 + 4, none⟩ = some (byteV mv.data) := below_cell HR.out.by_ (hmc 4 _ rfl)
        rw [Nat.add_zero] at g0
        clear hmc
        have hk1 : (k : Int) < (l.length : Int) := by omega
        have hk0 : (0 : Int) ≤ (k : Int) := by omega
        have G0 := Lib.hid g0
        have G1 := Lib.hid g1
        have G2 := Lib.hid g2
        have G3 := Lib.hid g3
        have G4 := Lib.hid g4
        clear g0 g1 g2 g3 g4
        go_upto_region 11 with (fail)
        obtain ⟨X5, hX5⟩ : ∃ x, x = hapN m mv := ⟨_, rfl⟩
        obtain ⟨P5, hP5⟩ : ∃ x, x = hapP m mv := ⟨_, rfl⟩
        obtain ⟨E5, hE5⟩ : ∃ x, x = hapE m mv := ⟨_, rfl⟩
        have HX5 := Lib.hid hX5
        clear hX5
        have HP5 := Lib.hid hP5
        clear hP5
        have HE5 := Lib.hid hE5
        clear hE5
        have x0 := HR.out.box.cell 0 rfl
        have x1 := HR.out.box.cell 1 rfl
        have r0 := fun q : LaterG LeB wr.drew => q.drewCell x0
        have r1 := fun q : LaterG LeB wr.drew => q.drewCell x1
        have r2 := fun q : LaterG LeB wr.drew => q.drewCell G0.out
        have r3 := fun q : LaterG LeB wr.drew => q.drewCell G1.out
        have r4 := fun q : LaterG LeB wr.drew => q.drewCell G2.out
        have r5 := fun q : LaterG LeB wr.drew => q.drewCell G3.out
        have r6 := fun q : LaterG LeB wr.drew => q.drewCell G4.out
        have HS : Hid (∀ V, Below wr.heap.size wr V → Calls Try.prog 27 #[.agg #[.slice qa m.queue.length qc, .slice aa m.apart.length ac], .agg #[byteV mv.kind, byteV mv.at_, byteV mv.a, byteV mv.b, byteV mv.data]] V (HapRet (DV v1.heap.size u4 wr) X5 P5 E5 V)) := Lib.hid (fun V hV => by
          rw [HX5.out, HP5.out, HE5.out]
          exact happens_any m mv qa qc aa ac V (DV v1.heap.size u4 wr) (fun b hb => Nat.lt_of_lt_of_le hb.1 hV.size) (good_net.keep (fun _ h => h) (fun b hb => hV.block b hb.1) HR.out.net))
        clear x0 x1
        have hst : ∀ e ∈ ([(5, TupNP X5 P5 E5), (6, TupNP X5 P5 E5), (7, AggD X5), (8, AggP P5), (9, IntD E5)] : List (Nat × PropD)), StableD e.2 := (stable_cons (tupNP_stable _ _ _) (stable_cons (tupNP_stable _ _ _) (stable_cons (aggD_stable _) (stable_cons (aggP_stable _) (stable_cons (intD_stable _) stable_nil)))))
        have HST := Lib.hid hst
        clear hst
        refine wp_region_growI [0, 1, 2, 3, 4, 5, 6, 7, 8, 9, 10, 11] [8, 9] [12, 13, 14] LeB (CallI wr.heap.size (DV v1.heap.size u4 wr) 5 [(5, TupNP X5 P5 E5), (6, TupNP X5 P5 E5), (7, AggD X5), (8, AggP P5), (9, IntD E5)] [(10, #[.slice none 0 0, .slice none 0 0], 25), (11, #[.int .i64 0, .int .i64 0, .slice none 0 0], 28)]) (hvOf [(5, []), (6, [5]), (7, [6]), (8, [6]), (9, [6]), (10, []), (11, [])]) (by kernel_rfl) (by kernel_rfl) (by kernel_rfl) (callI_lawful HST.out) (leB_refl _) (callI_start (Nat.le_refl _)) (fun d v c a w h => by cases d <;> exact h) ?_
        simp only [pickOps, List.getElem?_cons_zero, List.getElem?_cons_succ, List.map_cons, List.map_nil]
        repeat (refine wpGI_step rfl (fun K hK => ?_); go_simp; refine hK _ ?_; clear hK K)
        refine wpGI_heavy rfl rfl (callI_call (Φ := TupNP X5 P5 E5) (Nat.le_refl _) (fun b h => h.1) (by intro e he h; simp only [List.mem_cons, List.not_mem_nil, or_false] at he; rcases he with rfl | rfl | rfl | rfl | rfl <;> first | rfl | exact absurd h (by simp)) (by intro e he; simp only [List.mem_cons, List.not_mem_nil, or_false] at he; rcases he with rfl | rfl <;> simp) (fun q => ?_)) (fun y5 => ?_)
        · go_simp
          refine (HS.out q.W q.below).mono ?_
          rintro e W'' ⟨qb1, qd1, ab1, ad1, da1, dc1, rfl, hrn, hrp, hb⟩
          exact ⟨_, rfl, hb, qb1, qd1, ab1, ad1, da1, dc1, rfl, hrn, hrp⟩
        simp only [Act.put, List.setIfInBounds_toArray, List.set_cons_zero, List.set_cons_succ]
        refine wpGI_heavy rfl rfl (callI_dep (j := 5) (Φ := TupNP X5 P5 E5) (Ψ := TupNP X5 P5 E5) (by simp) (by decide) (by intro e he h; simp only [List.mem_cons, List.not_mem_nil, or_false] at he; rcases he with rfl | rfl | rfl | rfl | rfl <;> first | rfl | exact absurd h (by simp)) (by intro e he; simp only [List.mem_cons, List.not_mem_nil, or_false] at he; rcases he with rfl | rfl <;> simp) (fun q D h => ?_)) (fun y6 => ?_)
        · obtain ⟨qb1, qd1, ab1, ad1, da1, dc1, hv, hrn, hrp⟩ : TupNP X5 P5 E5 D y5 q.W := h
          subst hv
          go_simp
          exact ⟨qb1, qd1, ab1, ad1, da1, dc1, rfl, hrn, hrp⟩
        simp only [Act.put, List.setIfInBounds_toArray, List.set_cons_zero, List.set_cons_succ]
        refine wpGI_heavy rfl rfl (callI_dep (j := 6) (Φ := TupNP X5 P5 E5) (Ψ := AggD X5) (by simp) (by decide) (by intro e he h; simp only [List.mem_cons, List.not_mem_nil, or_false] at he; rcases he with rfl | rfl | rfl | rfl | rfl <;> first | rfl | exact absurd h (by simp)) (by intro e he; simp only [List.mem_cons, List.not_mem_nil, or_false] at he; rcases he with rfl | rfl <;> simp) (fun q D h => ?_)) (fun y7 => ?_)
        · obtain ⟨qb1, qd1, ab1, ad1, da1, dc1, hv, hrn, hrp⟩ : TupNP X5 P5 E5 D y6 q.W := h
          subst hv
          go_simp
          exact ⟨qb1, qd1, ab1, ad1, rfl, hrn⟩
        simp only [Act.put, List.setIfInBounds_toArray, List.set_cons_zero, List.set_cons_succ]
        refine wpGI_heavy rfl rfl (callI_dep (j := 6) (Φ := TupNP X5 P5 E5) (Ψ := AggP P5) (by simp) (by decide) (by intro e he h; simp only [List.mem_cons, List.not_mem_nil, or_false] at he; rcases he with rfl | rfl | rfl | rfl | rfl <;> first | rfl | exact absurd h (by simp)) (by intro e he; simp only [List.mem_cons, List.not_mem_nil, or_false] at he; rcases he with rfl | rfl <;> simp) (fun q D h => ?_)) (fun y8 => ?_)
        · obtain ⟨qb1, qd1, ab1, ad1, da1, dc1, hv, hrn, hrp⟩ : TupNP X5 P5 E5 D y6 q.W := h
          subst hv
          go_simp
          exact ⟨da1, dc1, rfl, hrp⟩
        simp only [Act.put, List.setIfInBounds_toArray, List.set_cons_zero, List.set_cons_succ]
        refine wpGI_heavy rfl rfl (callI_dep (j := 6) (Φ := TupNP X5 P5 E5) (Ψ := IntD E5) (by simp) (by decide) (by intro e he h; simp only [List.mem_cons, List.not_mem_nil, or_false] at he; rcases he with rfl | rfl | rfl | rfl | rfl <;> first | rfl | exact absurd h (by simp)) (by intro e he; simp only [List.mem_cons, List.not_mem_nil, or_false] at he; rcases he with rfl | rfl <;> simp) (fun q D h => ?_)) (fun y9 => ?_)
        · obtain ⟨qb1, qd1, ab1, ad1, da1, dc1, hv, hrn, hrp⟩ : TupNP X5 P5 E5 D y6 q.W := h
          subst hv
          go_simp
          rfl
        simp only [Act.put, List.setIfInBounds_toArray, List.set_cons_zero, List.set_cons_succ]
        refine wpGI_heavy rfl rfl (callI_alloc (cs := #[.slice none 0 0, .slice none 0 0]) (t := 25) (by decide) (by intro e he; simp only [List.mem_cons, List.not_mem_nil, or_false] at he; rcases he with rfl | rfl | rfl | rfl | rfl <;> simp) (by intro e he h; simp only [List.mem_cons, List.not_mem_nil, or_false] at he; rcases he with rfl | rfl <;> first | rfl | exact absurd h (by simp)) HST.out (fun q => ?_)) (fun y10 => ?_)
        · go_simp
          first | exact ⟨below_new _ _, trivial, trivial⟩ | exact ⟨below_new _ _, rfl, rfl⟩ | exact below_new _ _
        simp only [Act.put, List.setIfInBounds_toArray, List.set_cons_zero, List.set_cons_succ]
        refine wpGI_heavy rfl rfl (callI_alloc (cs := #[.int .i64 0, .int .i64 0, .slice none 0 0]) (t := 28) (by decide) (by intro e he; simp only [List.mem_cons, List.not_mem_nil, or_false] at he; rcases he with rfl | rfl | rfl | rfl | rfl <;> simp) (by intro e he h; simp only [List.mem_cons, List.not_mem_nil, or_false] at he; rcases he with rfl | rfl <;> first | rfl | exact absurd h (by simp)) HST.out (fun q => ?_)) (fun y11 => ?_)
        · go_simp
          first | exact ⟨below_new _ _, trivial, trivial⟩ | exact ⟨below_new _ _, rfl, rfl⟩ | exact below_new _ _
        simp only [Act.put, List.setIfInBounds_toArray, List.set_cons_zero, List.set_cons_succ]
        refine wpGI_nil ?_
        intro q s hs hI
        obtain ⟨h1, ⟨D, h2, h3, h4⟩, h5⟩ := hI
        clear r0 r1 r2 r3 r4 r5 r6
        obtain ⟨qa5, qc5, aa5, ac5, hy7, hrn⟩ : AggD X5 D y7 q.W := (h3 (7, AggD X5) (by simp) (hs 7 (by simp) rfl)).2
        obtain ⟨da5, dc5, hy8, hrp⟩ : AggP P5 D y8 q.W := (h3 (8, AggP P5) (by simp) (hs 8 (by simp) rfl)).2
        have hy9 : y9 = .int .i64 E5 := (h3 (9, IntD E5) (by simp) (hs 9 (by simp) rfl)).2
        obtain ⟨g7, hy10, hg70, hg7D, hg7⟩ : ∃ g, y10 = .pointer (some ⟨g, 0, none⟩) ∧ wr.heap.size ≤ g ∧ ¬ D g ∧ Box q.W g #[.slice none 0 0, .slice none 0 0] 25 := h4 (10, #[.slice none 0 0, .slice none 0 0], 25) (by simp) (hs 10 (by simp) rfl)
        obtain ⟨g8, hy11, hg80, hg8D, hg8⟩ : ∃ g, y11 = .pointer (some ⟨g, 0, none⟩) ∧ wr.heap.size ≤ g ∧ ¬ D g ∧ Box q.W g #[.int .i64 0, .int .i64 0, .slice none 0 0] 28 := h4 (11, #[.int .i64 0, .int .i64 0, .slice none 0 0], 28) (by simp) (hs 11 (by simp) rfl)
        have hgne : g7 ≠ g8 := fun e => h5 (10, #[.slice none 0 0, .slice none 0 0], 25) (by simp) (11, #[.int .i64 0, .int .i64 0, .slice none 0 0], 28) (by simp) (by simp) (hs 10 (by simp) rfl) (hs 11 (by simp) rfl) (by subst e; exact hy10.trans hy11.symm)
        subst hy7 hy8 hy9 hy10 hy11
        have hb11 := q.below
        have HRN := Lib.hid hrn
        have HRP := Lib.hid hrp
        have HG7 := Lib.hid hg7
        have HG8 := Lib.hid hg8
        have HGD : Hid (∀ b, D b → b ≠ g7 ∧ b ≠ g8) := Lib.hid (fun b hb => ⟨fun e => hg7D (by rw [← e]; exact hb), fun e => hg8D (by rw [← e]; exact hb)⟩)
        have HD2 := Lib.hid h2
        clear hs hrn hrp hg7 hg8 h3 h4 hg7D hg8D h2 h5 h1 HS
        obtain ⟨v11, hby⟩ := q
        simp only at hb11 HRN HRP HG7 HG8 HD2 ⊢
        clear hby
        have c70 := HG7.out.cell 0 rfl
        have f70 := HG7.out.free 0
        have c71 := HG7.out.cell 1 rfl
        have f71 := HG7.out.free 1
        have c80 := HG8.out.cell 0 rfl
        have f80 := HG8.out.free 0
        have c81 := HG8.out.cell 1 rfl
        have f81 := HG8.out.free 1
        have c82 := HG8.out.cell 2 rfl
        have f82 := HG8.out.free 2
        have hgne' : g8 ≠ g7 := Ne.symm hgne
        have HNE := Lib.hid hgne
        have HNE' := Lib.hid hgne'
        clear hgne hgne'
        have hne7 := HNE.out
        go_upto_region 12 with (fail)
        clear c70 f70 c71 f71 c80 f80 c81 f81 c82 f82
        clear hne7
        have hgne := HNE.out
        refine wp_name ?_
        intro U1 hW1
        have HV1 : Hid (Step [g7, g8] v11 U1) := by
          rw [hW1]
          refine Lib.hid ?_
          repeat (first | (with_reducible exact (Step.refl [g7, g8] v11)) | (with_reducible refine Step.drew ?_) | (with_reducible refine Step.drewN ?_ _) | (with_reducible refine Step.alloc ?_ _) | ((with_reducible apply Step.setE); focus (first | (left; simp; done) | (right; simp; done) | (right; simp; omega) | (right; dsimp only; omega) | (right; omega))))
        have HS1 : Hid (Step [] wr U1) := by
          rw [hW1]
          refine Lib.hid ?_
          repeat (first | (with_reducible exact (Step.of_below hb11)) | (with_reducible refine Step.drew ?_) | (with_reducible refine Step.drewN ?_ _) | (with_reducible refine Step.alloc ?_ _) | ((with_reducible apply Step.setE); focus (first | (left; simp; done) | (right; simp; done) | (right; simp; omega) | (right; dsimp only; omega) | (right; omega))))
        have HBVX : Hid (Box U1 (g7) #[.slice qa5 X5.queue.length qc5, .slice aa5 X5.apart.length ac5] 25) := by
          rw [hW1]
          refine Lib.hid ?_
          repeat (first | (with_reducible exact HG7.out) | (with_reducible exact Box.newE _ _ _ _ (by first | rfl | (simp; done))) | (with_reducible refine Box.drew ?_) | (with_reducible refine Box.drewN ?_ _) | (with_reducible refine Box.alloc ?_ _) | (with_reducible apply Box.setE) | ((with_reducible apply Box.otherE); first | (exact (by omega)) | (exact (by simp)) | (exact (by simp; omega))) | (exact (rfl : Array.setIfInBounds _ _ _ = _)))
        have HBVP : Hid (Box U1 (g8) #[.int .i64 P5.src, .int .i64 P5.dst, .slice da5 P5.data.length dc5] 28) := by
          rw [hW1]
          refine Lib.hid ?_
          repeat (first | (with_reducible exact HG8.out) | (with_reducible exact Box.newE _ _ _ _ (by first | rfl | (simp; done))) | (with_reducible refine Box.drew ?_) | (with_reducible refine Box.drewN ?_ _) | (with_reducible refine Box.alloc ?_ _) | (with_reducible apply Box.setE) | ((with_reducible apply Box.otherE); first | (exact (by omega)) | (exact (by simp)) | (exact (by simp; omega))) | (exact (rfl : Array.setIfInBounds _ _ _ = _)))
        clear hW1
        have HRa := Lib.hid (HR.out.below (Step.to_below HS1.out (noS wr)))
        have HDX : Hid (RNet (DV v1.heap.size u4 U1) U1 X5 [.slice qa5 X5.queue.length qc5, .slice aa5 X5.apart.length ac5]) := Lib.hid (good_net.keep (HR.out.dv_call HD2.out HV1.out.size) (fun b hb => HV1.out.block b (HD2.out b hb).2 (by have h1 := HGD.out b hb; simp [h1.1, h1.2])) HRN.out)
        have HDP : Hid (RPk (DV v1.heap.size u4 U1) U1 P5 [.int .i64 P5.src, .int .i64 P5.dst, .slice da5 P5.data.length dc5]) := Lib.hid (good_pk.keep (HR.out.dv_call HD2.out HV1.out.size) (fun b hb => HV1.out.block b (HD2.out b hb).2 (by have h1 := HGD.out b hb; simp [h1.1, h1.2])) HRP.out)
        have HG0a : Hid (U1.cell? ⟨mb, mo + k * 5, none⟩ = some (byteV mv.kind)) := Lib.hid (cell_step G0.out HS1.out)
        clear hgne hb11 HRN HRP HG7 HG8 HGD HD2 HNE HNE' G0 G1 G2 G3 G4
        by_cases hE : E5 = 0
        · subst hE
          obtain ⟨p0, p1, p2, p3⟩ := hap_ok HR.out.inv HE5.out.symm
          rw [← HX5.out] at p0 p2 p3
          rw [← HP5.out] at p1
          have PL0 := Lib.hid p0
          have PL1 := Lib.hid p1
          have PL2 := Lib.hid p2
          have PL3 := Lib.hid p3
          clear p0 p1 p2 p3
          obtain ⟨kd, hkd⟩ : ∃ x : Nat, x = mv.kind.toNat := ⟨_, rfl⟩
          have lkd : kd < 256 := hkd ▸ UInt8.toNat_lt _
          have HKD : Hid (hapK mv = kd % 6) := by unfold hapK Hid; rw [hkd]
          have g0 := HG0a.out
          unfold byteV at g0
          rw [← hkd] at g0
          clear hkd
          have hsix : (kd : Int) % 6 = 0 ∨ (kd : Int) % 6 = 1 ∨ (kd : Int) % 6 = 2 ∨ (kd : Int) % 6 = 3 ∨ (kd : Int) % 6 = 4 ∨ (kd : Int) % 6 = 5 := by omega
          have HSX := Lib.hid hsix
          clear hsix
          go_upto_region 16 with (fail)
          clear g0
          have hk6 := HSX.out
          clear HSX
          rcases hk6 with hk6 | hk6 | hk6 | hk6 | hk6 | hk6
          · have hKk : hapK mv = 0 := by have h1 := HKD.out; omega
            have HKk := Lib.hid hKk
            clear hKk
            go_upto_region 17 with (fail)
            clear hk6
            obtain ⟨q, hXq, hinv0⟩ := PL0.out HKk.out
            have HI0 := Lib.hid hinv0
            clear hinv0
            obtain ⟨n1, hn1⟩ : ∃ x, x = m.queue.length := ⟨_, rfl⟩
            have xl : X5.queue.length = n1 + 1 := by rw [hXq, hn1]; simp
            have xg : ∀ h : n1 < X5.queue.length, X5.queue[n1] = q := by subst hXq; subst hn1; intro h; simp
            obtain ⟨hx5, rq⟩ := net_queue HDX.out
            have wn1 : wrap64 (n1 : Int) = (n1 : Int) := IntWalk.wrap64_in _ (by omega)
            have WN1 := Lib.hid wn1
            clear wn1
            have hsub : (X5.queue.length : Int) - 1 = (n1 : Int) := by omega
            obtain ⟨xb, xo, xcs, e, hxb, hxr, hxc⟩ := rq n1 (by omega)
            cases e
            rw [xg] at hxr
            obtain ⟨da6, dc6, rfl, hxr'⟩ := hxr
            have DQ : Hid (RPk (DV v1.heap.size u4 U1) U1 q [.int .i64 q.src, .int .i64 q.dst, .slice da6 q.data.length dc6]) := Lib.hid ⟨da6, dc6, rfl, hxr'⟩
            have e0 : U1.cell? ⟨xb, xo + n1 * 3, none⟩ = some (.int .i64 q.src) := hxc 0 _ rfl
            have e1 : U1.cell? ⟨xb, xo + n1 * 3 + 1, none⟩ = some (.int .i64 q.dst) := hxc 1 _ rfl
            have e2 : U1.cell? ⟨xb, xo + n1 * 3 + 2, none⟩ = some (.slice da6 q.data.length dc6) := hxc 2 _ rfl
            have XL := Lib.hid xl
            clear hXq hn1 xg rq hxb hxc hxr' hx5
            obtain ⟨xs, hown, hnews, hlen, hone, hpush⟩ := SentAt.push (cs := #[.int .i64 q.src, .int .i64 q.dst, .slice da6 q.data.length dc6]) HRa.out.sent DQ.out HRa.out.le
            have HOW := Lib.hid hown
            have HNW := Lib.hid hnews
            have HLN := Lib.hid hlen
            have HON := Lib.hid hone
            have HPU := Lib.hid hpush
            clear hown hnews hlen hone hpush
            have K3 : Hid (sent.length + 1 ≤ maxLen) := maxLen_le (by omega)
            have K4 : Hid ((sent.length + 1) * 40 ≤ 140737488355328) := Lib.hid (by omega)
            have K5 : Hid (W1.heap.size ≤ (U1.alloc (.cells #[.int .i64 q.src, .int .i64 q.dst, .slice da6 q.data.length dc6] 28)).heap.size) := le_alloc HRa.out.le _
            have z0 : U1.cell? ⟨g7, 0, none⟩ = some (.slice (some ⟨xb, xo, none⟩) X5.queue.length qc5) := HBVX.out.cell 0 rfl
            have hne0 : ((X5.queue.length : Int) == 0) = false := by rw [beq_eq_false_iff_ne]; omega
            have hi1 : (n1 : Int) < (X5.queue.length : Int) := by omega
            have hi0 : (0 : Int) ≤ (n1 : Int) := by omega
            clear xl
            have wn1 := WN1.out
            go_upto_region 30 with (at_builtin; refine wpList_app rfl _ _ rfl elemPk W1.heap.size _ _ _ rfl HOW.out _ 1 _ rfl (Source.cells _ _ _ _ rfl HLN.out HNW.out HON.out) (.inl rfl) K3.out K4.out K5.out ?_; intro v5 w5 hg5)
            clear z0 hne0 hi1 hi0 e0 e1 e2 wn1 hsub
            obtain ⟨p1, p2, p3, p4⟩ := HPU.out v5 w5 hg5
            have Q1 := Lib.hid p1
            have Q2 := Lib.hid p2
            have Q3 := Lib.hid p3
            have Q4 := Lib.hid p4
            clear p1 p2 p3 p4 hg5
            have hg7o : ∀ g, u4.ownBlock = some g → g ≠ g7 := fun g hg e => by have h1 := (HR.out.sent.own_lt hg).2; omega
            have HG7O := Lib.hid hg7o
            clear hg7o
            have hle5 : W1.heap.size ≤ w5.heap.size := Nat.le_trans HRa.out.le Q2.out.size
            have HLE5 := Lib.hid hle5
            clear hle5
            have hinv := HI0.out
            have HINV := Lib.hid hinv
            clear hinv
            have bx := (show Box w5 g7 #[.slice (some ⟨xb, xo, none⟩) X5.queue.length qc5, .slice aa5 X5.apart.length ac5] 25 from (Q3.out g7 HBVX.out.lt (fun e => HG7O.out g7 e rfl)).trans HBVX.out)
            have bn := (show Box w5 v1.heap.size #[.slice qa m.queue.length qc, .slice aa m.apart.length ac] 25 from (Q2.out.block v1.heap.size HRa.out.hi).trans HRa.out.box)
            have z0 := bx.cell 0 rfl
            have z1 := bx.cell 1 rfl
            have y0 := bn.cell 0 rfl
            have y1 := bn.cell 1 rfl
            have fy0 := bn.free 0
            have fy1 := bn.free 1
            have BNB := Lib.hid bn
            clear bx bn
            go_upto_region 31 with (fail)
            clear z0 z1 y0 y1 fy0 fy1
            refine wp_name ?_
            intro Wn hWn
            have HT : Hid (SentRel w v1.heap.size W1.heap.size v5 X5 (sent ++ [q]) (cuts) (.slice (some ⟨xb, xo, none⟩) X5.queue.length qc5) (.slice aa5 X5.apart.length ac5) Wn) := by
              rw [hWn]
              exact Lib.hid (SentRel.store BNB.out HRa.out.lo HRa.out.hi HLE5.out (HRa.out.by_.trans (Q2.out.mono (Nat.le_trans (Nat.le_trans HRa.out.lo (Nat.le_of_lt HRa.out.hi)) (Nat.le_refl _)))) HINV.out (good_net.keep Q4.out (fun b hb => Q3.out b hb.1 hb.2.2) HDX.out) Q1.out)
            clear hWn
            have hx := check_any X5 (some ⟨xb, xo, none⟩) qc5 aa5 ac5 Wn (good_net.keep (fun b h => h.1) (fun _ _ => rfl) HT.out.net)
            rw [netB_chk HINV.out.ok] at hx
            have y0 := HT.out.box.cell 0 rfl
            have y1 := HT.out.box.cell 1 rfl
            go_wp2_with fail
            refine hx.mono ?_
            rintro e v20 ⟨rfl, hb20⟩
            clear hx
            clear y0 y1
            go_wp2_with fail
            go_roundw
            case rel => exact ⟨k + 1, X5, sent ++ [q], cuts, _, _, by omega, by omega, by simp; omega, by go_num, rfl, HT.out.below hb20⟩
            case measure => simp [intOf]; omega
          · have hKk : hapK mv = 1 := by have h1 := HKD.out; omega
            have HKk := Lib.hid hKk
            clear hKk
            go_upto_region 21 with (fail)
            clear hk6
            obtain ⟨s1, hs1⟩ : ∃ x, x = samePktB P5 .nil := ⟨_, rfl⟩
            have hmet := PL1.out HKk.out
            rw [← hs1] at hmet
            have HMET := Lib.hid hmet
            clear hmet
            obtain ⟨_, _, e, _, _, _, _, rowP⟩ := good_pk.keep (fun b h => h.1) (fun _ _ => rfl) HDP.out (F' := Now U1)
            cases e
            have hx := samePkt_any P5 .nil da5 dc5 none 0 U1 rowP (RRow.nil _)
            rw [← hs1] at hx
            clear hs1 rowP
            have qVP_0 := HBVP.out.cell 0 rfl
            have qVP_1 := HBVP.out.cell 1 rfl
            have qVP_2 := HBVP.out.cell 2 rfl
            go_wp2_with fail
            refine hx.mono ?_
            rintro e v14 ⟨rfl, hb14⟩
            clear hx
            clear qVP_0 qVP_1 qVP_2
            have hB : ∃ b0 : Bool, (s1 && decide (0 < cuts)) = b0 := ⟨_, rfl⟩
            obtain ⟨b0, hb0⟩ := hB
            rw [hb0] at HMET
            have HB0 := Lib.hid hb0
            clear hb0
            cases s1
            · obtain rfl : b0 = false := HB0.out.symm
              clear HB0
              obtain ⟨sa, scap, rfl, hsc, hsr⟩ := HRa.out.sent.row
              have HSR := Lib.hid hsr
              clear hsr
              go_wp2_with fail
              refine wp_name ?_
              intro U2 hW2
              have HV2 : Hid (Step [] v14 U2) := by
                rw [hW2]
                refine Lib.hid ?_
                repeat (first | (with_reducible exact (Step.refl [] v14)) | (with_reducible refine Step.drew ?_) | (with_reducible refine Step.drewN ?_ _) | (with_reducible refine Step.alloc ?_ _) | ((with_reducible apply Step.setE); focus (first | (left; simp; done) | (right; simp; done) | (right; simp; omega) | (right; dsimp only; omega) | (right; omega))))
              have HS2 : Hid (Step [] U1 U2) := Lib.hid ((Step.of_below hb14).trans HV2.out)
              clear hW2
              have HSRc : Hid (Row 3 RPk U2 sent sa) := Lib.hid (HSR.out.below good_pk hb14 |> fun h => h.keep good_pk (fun b h1 => Nat.lt_of_lt_of_le h1 HV2.out.size) (fun b h1 => HV2.out.block b h1 (by simp)))
              have HWc : Hid (Below U1.heap.size U1 U2) := Lib.hid (Step.to_below HS2.out (noS _))
              clear hb14 HSR
              have HDPc : Hid (RPk (Now U2) U2 P5 [.int .i64 P5.src, .int .i64 P5.dst, .slice da5 P5.data.length dc5]) := Lib.hid (good_pk.keep (fun b h => Nat.lt_of_lt_of_le h.1 HWc.out.size) (fun b h => HWc.out.block b h.1) HDP.out)
              replace HBVP : Hid (Box U2 (g8) #[.int .i64 P5.src, .int .i64 P5.dst, .slice da5 P5.data.length dc5] 28) := Lib.hid (HBVP.out.step HS2.out (by (first | omega | (simp; done) | (simp; omega))))
              replace HBVX : Hid (Box U2 (g7) #[.slice qa5 X5.queue.length qc5, .slice aa5 X5.apart.length ac5] 25) := Lib.hid (HBVX.out.step HS2.out (by (first | omega | (simp; done) | (simp; omega))))
              go_loopw [10, 11] (fun mt j wr => ∃ (jj : Nat) (b : Bool), jj ≤ sent.length ∧ j = .int .i64 jj ∧ mt = .bool b ∧ Hid (b = (false || (sent.take jj).any (fun s => samePktB s P5))) ∧ Hid (Below U2.heap.size U2 wr)) (fun _ j _ => sent.length - (intOf j).toNat)
              case atStart => exact ⟨0, false, Nat.zero_le _, rfl, rfl, by simp [Hid], Below.refl _ _⟩
              case round =>
                obtain ⟨jj, b, hjj, rfl, rfl, HBB, HBL⟩ := hrel
                by_cases hjl : jj < sent.length
                · have hj1 : (jj : Int) < (sent.length : Int) := by omega
                  have hj0 : (0 : Int) ≤ (jj : Int) := by omega
                  have HTK := Lib.hid (any_take_succ (fun s => samePktB s P5) sent jj hjl)
                  obtain ⟨sb, so, scs, e, hsb, hsr, hsc'⟩ := HSRc.out.below good_pk HBL.out jj hjl
                  cases e
                  obtain ⟨da7, dc7, rfl, hsr'⟩ := hsr
                  obtain ⟨sq, hsq⟩ : ∃ x, x = sent[jj] := ⟨_, rfl⟩
                  rw [← hsq] at hsr' hsc' HTK
                  clear hsq hsb
                  have t0 : wr.cell? ⟨sb, so + jj * 3, none⟩ = some (.int .i64 sq.src) := hsc' 0 _ rfl
                  have t1 : wr.cell? ⟨sb, so + jj * 3 + 1, none⟩ = some (.int .i64 sq.dst) := hsc' 1 _ rfl
                  have t2 : wr.cell? ⟨sb, so + jj * 3 + 2, none⟩ = some (.slice da7 sq.data.length dc7) := hsc' 2 _ rfl
                  obtain ⟨_, _, _, rows⟩ := hsr'
                  have bp := HBVP.out.below HBL.out
                  have t3 := bp.cell 0 rfl
                  have t4 := bp.cell 1 rfl
                  have t5 := bp.cell 2 rfl
                  obtain ⟨_, _, e, _, _, _, _, rowP⟩ := good_pk.below HBL.out HDPc.out
                  cases e
                  obtain ⟨tb, htb⟩ : ∃ x, x = samePktB sq P5 := ⟨_, rfl⟩
                  have C1 : Hid (∀ q : Later wr, Calls Try.prog 19 #[.agg #[.int .i64 sq.src, .int .i64 sq.dst, .slice da7 sq.data.length dc7], .agg #[.int .i64 P5.src, .int .i64 P5.dst, .slice da5 P5.data.length dc5]] q.W fun e w'' => e = .returned (.bool tb) ∧ ∃ q' : Later wr, w'' = q'.W) := Lib.hid (fun q => by
                    rw [htb]
                    exact later_of q (samePkt_any sq P5 da7 dc7 da5 dc5 q.W (rows.2.below good_u8 q.by_) (rowP.below good_u8 q.by_)))
                  rw [← htb] at HTK
                  clear htb hsc' rows rowP
                  have u0_ := fun q : Later wr => q.cell t0
                  have u1_ := fun q : Later wr => q.cell t1
                  have u2_ := fun q : Later wr => q.cell t2
                  have u3_ := fun q : Later wr => q.cell t3
                  have u4_ := fun q : Later wr => q.cell t4
                  have u5_ := fun q : Later wr => q.cell t5
                  clear t0 t1 t2 t3 t4 t5 bp
                  cases b
                  · go_wp2_with fail
                    refine wp_region_later (by kernel_rfl) (by kernel_rfl) ?_
                    repeat (first | go_big_quiet_skip | quiet_step (with_reducible exact C1.out _))
                    refine wpQuiet_nil ?_
                    intro _ hw'
                    obtain ⟨⟨W9, hW9⟩, rfl⟩ := hw'
                    go_wp2_with fail
                    go_roundw
                    case rel => exact ⟨jj + 1, tb, by omega, by go_num, rfl, by unfold Hid; rw [HTK.out]; have h := HBB.out; revert h; cases (sent.take jj).any (fun s => samePktB s P5) <;> cases tb <;> simp, HBL.out.trans (hW9.mono HBL.out.size)⟩
                    case measure => simp [intOf]; omega
                  · go_wp2_with fail
                    refine wp_region_later (by kernel_rfl) (by kernel_rfl) ?_
                    repeat (first | go_big_quiet_skip | quiet_step (with_reducible exact C1.out _))
                    refine wpQuiet_nil ?_
                    intro _ hw'
                    obtain ⟨⟨W9, hW9⟩, rfl⟩ := hw'
                    go_wp2_with fail
                    go_roundw
                    case rel => exact ⟨jj + 1, true, by omega, by go_num, rfl, by unfold Hid; rw [HTK.out]; have h := HBB.out; revert h; cases (sent.take jj).any (fun s => samePktB s P5) <;> cases tb <;> simp, HBL.out.trans (hW9.mono HBL.out.size)⟩
                    case measure => simp [intOf]; omega
                · have hjj' : jj = sent.length := by omega
                  subst hjj'
                  obtain rfl : b = true := by have h := HBB.out; rw [List.take_length] at h; rw [h]; exact HMET.out
                  have hj1 : ¬ (sent.length : Int) < (sent.length : Int) := by omega
                  have hbl := HWc.out.trans (HBL.out.mono HWc.out.size)
                  have HBL2 := Lib.hid hbl
                  clear hbl
                  go_upto_region 30 with (fail)
                  clear hj1
                  have HRb := Lib.hid (HRa.out.below HBL2.out)
                  have hinv := PL2.out (by rw [HKk.out]; decide) (by rw [HKk.out]; decide)
                  have HINV := Lib.hid hinv
                  clear hinv
                  have bx := HBVX.out.below HBL.out
                  have bn := HRb.out.box
                  have z0 := bx.cell 0 rfl
                  have z1 := bx.cell 1 rfl
                  have y0 := bn.cell 0 rfl
                  have y1 := bn.cell 1 rfl
                  have fy0 := bn.free 0
                  have fy1 := bn.free 1
                  have BNB := Lib.hid bn
                  clear bx bn
                  go_upto_region 31 with (fail)
                  clear z0 z1 y0 y1 fy0 fy1
                  refine wp_name ?_
                  intro Wn hWn
                  have HT : Hid (SentRel w v1.heap.size W1.heap.size (.slice sa sent.length scap) X5 (sent) (cuts) (.slice qa5 X5.queue.length qc5) (.slice aa5 X5.apart.length ac5) Wn) := by
                    rw [hWn]
                    exact Lib.hid (SentRel.store BNB.out HRa.out.lo HRa.out.hi HRb.out.le HRb.out.by_ HINV.out (good_net.keep (dv_below HBL2.out).1 (dv_below HBL2.out).2 HDX.out) HRb.out.sent)
                  clear hWn
                  have hx := check_any X5 qa5 qc5 aa5 ac5 Wn (good_net.keep (fun b h => h.1) (fun _ _ => rfl) HT.out.net)
                  rw [netB_chk HINV.out.ok] at hx
                  have y0 := HT.out.box.cell 0 rfl
                  have y1 := HT.out.box.cell 1 rfl
                  go_wp2_with fail
                  refine hx.mono ?_
                  rintro e v20 ⟨rfl, hb20⟩
                  clear hx
                  clear y0 y1
                  go_wp2_with fail
                  go_roundw
                  case rel => exact ⟨k + 1, X5, sent, cuts, _, _, by omega, by omega, by omega, by go_num, rfl, HT.out.below hb20⟩
                  case measure => simp [intOf]; omega
            · by_cases hcp : 0 < cuts
              · have hc1 : (0 : Int) < (cuts : Int) := by omega
                obtain rfl : b0 = true := by have h := HB0.out; simp [hcp] at h; first | exact h | exact h.symm
                clear HB0
                obtain ⟨sa, scap, rfl, hsc, hsr⟩ := HRa.out.sent.row
                have HSR := Lib.hid hsr
                clear hsr
                go_wp2_with fail
                clear hc1
                refine wp_name ?_
                intro U2 hW2
                have HV2 : Hid (Step [] v14 U2) := by
                  rw [hW2]
                  refine Lib.hid ?_
                  repeat (first | (with_reducible exact (Step.refl [] v14)) | (with_reducible refine Step.drew ?_) | (with_reducible refine Step.drewN ?_ _) | (with_reducible refine Step.alloc ?_ _) | ((with_reducible apply Step.setE); focus (first | (left; simp; done) | (right; simp; done) | (right; simp; omega) | (right; dsimp only; omega) | (right; omega))))
                have HS2 : Hid (Step [] U1 U2) := Lib.hid ((Step.of_below hb14).trans HV2.out)
                clear hW2
                have HSRc : Hid (Row 3 RPk U2 sent sa) := Lib.hid (HSR.out.below good_pk hb14 |> fun h => h.keep good_pk (fun b h1 => Nat.lt_of_lt_of_le h1 HV2.out.size) (fun b h1 => HV2.out.block b h1 (by simp)))
                have HWc : Hid (Below U1.heap.size U1 U2) := Lib.hid (Step.to_below HS2.out (noS _))
                clear hb14 HSR
                have HDPc : Hid (RPk (Now U2) U2 P5 [.int .i64 P5.src, .int .i64 P5.dst, .slice da5 P5.data.length dc5]) := Lib.hid (good_pk.keep (fun b h => Nat.lt_of_lt_of_le h.1 HWc.out.size) (fun b h => HWc.out.block b h.1) HDP.out)
                replace HBVP : Hid (Box U2 (g8) #[.int .i64 P5.src, .int .i64 P5.dst, .slice da5 P5.data.length dc5] 28) := Lib.hid (HBVP.out.step HS2.out (by (first | omega | (simp; done) | (simp; omega))))
                replace HBVX : Hid (Box U2 (g7) #[.slice qa5 X5.queue.length qc5, .slice aa5 X5.apart.length ac5] 25) := Lib.hid (HBVX.out.step HS2.out (by (first | omega | (simp; done) | (simp; omega))))
                go_loopw [10, 11] (fun mt j wr => ∃ (jj : Nat) (b : Bool), jj ≤ sent.length ∧ j = .int .i64 jj ∧ mt = .bool b ∧ Hid (b = (true || (sent.take jj).any (fun s => samePktB s P5))) ∧ Hid (Below U2.heap.size U2 wr)) (fun _ j _ => sent.length - (intOf j).toNat)
                case atStart => exact ⟨0, true, Nat.zero_le _, rfl, rfl, by simp [Hid], Below.refl _ _⟩
                case round =>
                  obtain ⟨jj, b, hjj, rfl, rfl, HBB, HBL⟩ := hrel
                  by_cases hjl : jj < sent.length
                  · have hj1 : (jj : Int) < (sent.length : Int) := by omega
                    have hj0 : (0 : Int) ≤ (jj : Int) := by omega
                    have HTK := Lib.hid (any_take_succ (fun s => samePktB s P5) sent jj hjl)
                    obtain ⟨sb, so, scs, e, hsb, hsr, hsc'⟩ := HSRc.out.below good_pk HBL.out jj hjl
                    cases e
                    obtain ⟨da7, dc7, rfl, hsr'⟩ := hsr
                    obtain ⟨sq, hsq⟩ : ∃ x, x = sent[jj] := ⟨_, rfl⟩
                    rw [← hsq] at hsr' hsc' HTK
                    clear hsq hsb
                    have t0 : wr.cell? ⟨sb, so + jj * 3, none⟩ = some (.int .i64 sq.src) := hsc' 0 _ rfl
                    have t1 : wr.cell? ⟨sb, so + jj * 3 + 1, none⟩ = some (.int .i64 sq.dst) := hsc' 1 _ rfl
                    have t2 : wr.cell? ⟨sb, so + jj * 3 + 2, none⟩ = some (.slice da7 sq.data.length dc7) := hsc' 2 _ rfl
                    obtain ⟨_, _, _, rows⟩ := hsr'
                    have bp := HBVP.out.below HBL.out
                    have t3 := bp.cell 0 rfl
                    have t4 := bp.cell 1 rfl
                    have t5 := bp.cell 2 rfl
                    obtain ⟨_, _, e, _, _, _, _, rowP⟩ := good_pk.below HBL.out HDPc.out
                    cases e
                    obtain ⟨tb, htb⟩ : ∃ x, x = samePktB sq P5 := ⟨_, rfl⟩
                    have C1 : Hid (∀ q : Later wr, Calls Try.prog 19 #[.agg #[.int .i64 sq.src, .int .i64 sq.dst, .slice da7 sq.data.length dc7], .agg #[.int .i64 P5.src, .int .i64 P5.dst, .slice da5 P5.data.length dc5]] q.W fun e w'' => e = .returned (.bool tb) ∧ ∃ q' : Later wr, w'' = q'.W) := Lib.hid (fun q => by
                      rw [htb]
                      exact later_of q (samePkt_any sq P5 da7 dc7 da5 dc5 q.W (rows.2.below good_u8 q.by_) (rowP.below good_u8 q.by_)))
                    rw [← htb] at HTK
                    clear htb hsc' rows rowP
                    have u0_ := fun q : Later wr => q.cell t0
                    have u1_ := fun q : Later wr => q.cell t1
                    have u2_ := fun q : Later wr => q.cell t2
                    have u3_ := fun q : Later wr => q.cell t3
                    have u4_ := fun q : Later wr => q.cell t4
                    have u5_ := fun q : Later wr => q.cell t5
                    clear t0 t1 t2 t3 t4 t5 bp
                    cases b
                    · go_wp2_with fail
                      refine wp_region_later (by kernel_rfl) (by kernel_rfl) ?_
                      repeat (first | go_big_quiet_skip | quiet_step (with_reducible exact C1.out _))
                      refine wpQuiet_nil ?_
                      intro _ hw'
                      obtain ⟨⟨W9, hW9⟩, rfl⟩ := hw'
                      go_wp2_with fail
                      go_roundw
                      case rel => exact ⟨jj + 1, tb, by omega, by go_num, rfl, by unfold Hid; rw [HTK.out]; have h := HBB.out; revert h; cases (sent.take jj).any (fun s => samePktB s P5) <;> cases tb <;> simp, HBL.out.trans (hW9.mono HBL.out.size)⟩
                      case measure => simp [intOf]; omega
                    · go_wp2_with fail
                      refine wp_region_later (by kernel_rfl) (by kernel_rfl) ?_
                      repeat (first | go_big_quiet_skip | quiet_step (with_reducible exact C1.out _))
                      refine wpQuiet_nil ?_
                      intro _ hw'
                      obtain ⟨⟨W9, hW9⟩, rfl⟩ := hw'
                      go_wp2_with fail
                      go_roundw
                      case rel => exact ⟨jj + 1, true, by omega, by go_num, rfl, by unfold Hid; rw [HTK.out]; have h := HBB.out; revert h; cases (sent.take jj).any (fun s => samePktB s P5) <;> cases tb <;> simp, HBL.out.trans (hW9.mono HBL.out.size)⟩
                      case measure => simp [intOf]; omega
                  · have hjj' : jj = sent.length := by omega
                    subst hjj'
                    obtain rfl : b = true := by have h := HBB.out; rw [List.take_length] at h; rw [h]; exact HMET.out
                    have hj1 : ¬ (sent.length : Int) < (sent.length : Int) := by omega
                    have hbl := HWc.out.trans (HBL.out.mono HWc.out.size)
                    have HBL2 := Lib.hid hbl
                    clear hbl
                    go_upto_region 30 with (fail)
                    clear hj1
                    have HRb := Lib.hid (HRa.out.below HBL2.out)
                    have hinv := PL2.out (by rw [HKk.out]; decide) (by rw [HKk.out]; decide)
                    have HINV := Lib.hid hinv
                    clear hinv
                    have bx := HBVX.out.below HBL.out
                    have bn := HRb.out.box
                    have z0 := bx.cell 0 rfl
                    have z1 := bx.cell 1 rfl
                    have y0 := bn.cell 0 rfl
                    have y1 := bn.cell 1 rfl
                    have fy0 := bn.free 0
                    have fy1 := bn.free 1
                    have BNB := Lib.hid bn
                    clear bx bn
                    go_upto_region 31 with (fail)
                    clear z0 z1 y0 y1 fy0 fy1
                    refine wp_name ?_
                    intro Wn hWn
                    have HT : Hid (SentRel w v1.heap.size W1.heap.size (.slice sa sent.length scap) X5 (sent) (cuts) (.slice qa5 X5.queue.length qc5) (.slice aa5 X5.apart.length ac5) Wn) := by
                      rw [hWn]
                      exact Lib.hid (SentRel.store BNB.out HRa.out.lo HRa.out.hi HRb.out.le HRb.out.by_ HINV.out (good_net.keep (dv_below HBL2.out).1 (dv_below HBL2.out).2 HDX.out) HRb.out.sent)
                    clear hWn
                    have hx := check_any X5 qa5 qc5 aa5 ac5 Wn (good_net.keep (fun b h => h.1) (fun _ _ => rfl) HT.out.net)
                    rw [netB_chk HINV.out.ok] at hx
                    have y0 := HT.out.box.cell 0 rfl
                    have y1 := HT.out.box.cell 1 rfl
                    go_wp2_with fail
                    refine hx.mono ?_
                    rintro e v20 ⟨rfl, hb20⟩
                    clear hx
                    clear y0 y1
                    go_wp2_with fail
                    go_roundw
                    case rel => exact ⟨k + 1, X5, sent, cuts, _, _, by omega, by omega, by omega, by go_num, rfl, HT.out.below hb20⟩
                    case measure => simp [intOf]; omega
              · have hc1 : ¬ (0 : Int) < (cuts : Int) := by omega
                obtain rfl : b0 = false := by have h := HB0.out; simp [hcp] at h; first | exact h | exact h.symm
                clear HB0
                obtain ⟨sa, scap, rfl, hsc, hsr⟩ := HRa.out.sent.row
                have HSR := Lib.hid hsr
                clear hsr
                go_wp2_with fail
                clear hc1
                refine wp_name ?_
                intro U2 hW2
                have HV2 : Hid (Step [] v14 U2) := by
                  rw [hW2]
                  refine Lib.hid ?_
                  repeat (first | (with_reducible exact (Step.refl [] v14)) | (with_reducible refine Step.drew ?_) | (with_reducible refine Step.drewN ?_ _) | (with_reducible refine Step.alloc ?_ _) | ((with_reducible apply Step.setE); focus (first | (left; simp; done) | (right; simp; done) | (right; simp; omega) | (right; dsimp only; omega) | (right; omega))))
                have HS2 : Hid (Step [] U1 U2) := Lib.hid ((Step.of_below hb14).trans HV2.out)
                clear hW2
                have HSRc : Hid (Row 3 RPk U2 sent sa) := Lib.hid (HSR.out.below good_pk hb14 |> fun h => h.keep good_pk (fun b h1 => Nat.lt_of_lt_of_le h1 HV2.out.size) (fun b h1 => HV2.out.block b h1 (by simp)))
                have HWc : Hid (Below U1.heap.size U1 U2) := Lib.hid (Step.to_below HS2.out (noS _))
                clear hb14 HSR
                have HDPc : Hid (RPk (Now U2) U2 P5 [.int .i64 P5.src, .int .i64 P5.dst, .slice da5 P5.data.length dc5]) := Lib.hid (good_pk.keep (fun b h => Nat.lt_of_lt_of_le h.1 HWc.out.size) (fun b h => HWc.out.block b h.1) HDP.out)
                replace HBVP : Hid (Box U2 (g8) #[.int .i64 P5.src, .int .i64 P5.dst, .slice da5 P5.data.length dc5] 28) := Lib.hid (HBVP.out.step HS2.out (by (first | omega | (simp; done) | (simp; omega))))
                replace HBVX : Hid (Box U2 (g7) #[.slice qa5 X5.queue.length qc5, .slice aa5 X5.apart.length ac5] 25) := Lib.hid (HBVX.out.step HS2.out (by (first | omega | (simp; done) | (simp; omega))))
                go_loopw [10, 11] (fun mt j wr => ∃ (jj : Nat) (b : Bool), jj ≤ sent.length ∧ j = .int .i64 jj ∧ mt = .bool b ∧ Hid (b = (false || (sent.take jj).any (fun s => samePktB s P5))) ∧ Hid (Below U2.heap.size U2 wr)) (fun _ j _ => sent.length - (intOf j).toNat)
                case atStart => exact ⟨0, false, Nat.zero_le _, rfl, rfl, by simp [Hid], Below.refl _ _⟩
                case round =>
                  obtain ⟨jj, b, hjj, rfl, rfl, HBB, HBL⟩ := hrel
                  by_cases hjl : jj < sent.length
                  · have hj1 : (jj : Int) < (sent.length : Int) := by omega
                    have hj0 : (0 : Int) ≤ (jj : Int) := by omega
                    have HTK := Lib.hid (any_take_succ (fun s => samePktB s P5) sent jj hjl)
                    obtain ⟨sb, so, scs, e, hsb, hsr, hsc'⟩ := HSRc.out.below good_pk HBL.out jj hjl
                    cases e
                    obtain ⟨da7, dc7, rfl, hsr'⟩ := hsr
                    obtain ⟨sq, hsq⟩ : ∃ x, x = sent[jj] := ⟨_, rfl⟩
                    rw [← hsq] at hsr' hsc' HTK
                    clear hsq hsb
                    have t0 : wr.cell? ⟨sb, so + jj * 3, none⟩ = some (.int .i64 sq.src) := hsc' 0 _ rfl
                    have t1 : wr.cell? ⟨sb, so + jj * 3 + 1, none⟩ = some (.int .i64 sq.dst) := hsc' 1 _ rfl
                    have t2 : wr.cell? ⟨sb, so + jj * 3 + 2, none⟩ = some (.slice da7 sq.data.length dc7) := hsc' 2 _ rfl
                    obtain ⟨_, _, _, rows⟩ := hsr'
                    have bp := HBVP.out.below HBL.out
                    have t3 := bp.cell 0 rfl
                    have t4 := bp.cell 1 rfl
                    have t5 := bp.cell 2 rfl
                    obtain ⟨_, _, e, _, _, _, _, rowP⟩ := good_pk.below HBL.out HDPc.out
                    cases e
                    obtain ⟨tb, htb⟩ : ∃ x, x = samePktB sq P5 := ⟨_, rfl⟩
                    have C1 : Hid (∀ q : Later wr, Calls Try.prog 19 #[.agg #[.int .i64 sq.src, .int .i64 sq.dst, .slice da7 sq.data.length dc7], .agg #[.int .i64 P5.src, .int .i64 P5.dst, .slice da5 P5.data.length dc5]] q.W fun e w'' => e = .returned (.bool tb) ∧ ∃ q' : Later wr, w'' = q'.W) := Lib.hid (fun q => by
                      rw [htb]
                      exact later_of q (samePkt_any sq P5 da7 dc7 da5 dc5 q.W (rows.2.below good_u8 q.by_) (rowP.below good_u8 q.by_)))
                    rw [← htb] at HTK
                    clear htb hsc' rows rowP
                    have u0_ := fun q : Later wr => q.cell t0
                    have u1_ := fun q : Later wr => q.cell t1
                    have u2_ := fun q : Later wr => q.cell t2
                    have u3_ := fun q : Later wr => q.cell t3
                    have u4_ := fun q : Later wr => q.cell t4
                    have u5_ := fun q : Later wr => q.cell t5
                    clear t0 t1 t2 t3 t4 t5 bp
                    cases b
                    · go_wp2_with fail
                      refine wp_region_later (by kernel_rfl) (by kernel_rfl) ?_
                      repeat (first | go_big_quiet_skip | quiet_step (with_reducible exact C1.out _))
                      refine wpQuiet_nil ?_
                      intro _ hw'
                      obtain ⟨⟨W9, hW9⟩, rfl⟩ := hw'
                      go_wp2_with fail
                      go_roundw
                      case rel => exact ⟨jj + 1, tb, by omega, by go_num, rfl, by unfold Hid; rw [HTK.out]; have h := HBB.out; revert h; cases (sent.take jj).any (fun s => samePktB s P5) <;> cases tb <;> simp, HBL.out.trans (hW9.mono HBL.out.size)⟩
                      case measure => simp [intOf]; omega
                    · go_wp2_with fail
                      refine wp_region_later (by kernel_rfl) (by kernel_rfl) ?_
                      repeat (first | go_big_quiet_skip | quiet_step (with_reducible exact C1.out _))
                      refine wpQuiet_nil ?_
                      intro _ hw'
                      obtain ⟨⟨W9, hW9⟩, rfl⟩ := hw'
                      go_wp2_with fail
                      go_roundw
                      case rel => exact ⟨jj + 1, true, by omega, by go_num, rfl, by unfold Hid; rw [HTK.out]; have h := HBB.out; revert h; cases (sent.take jj).any (fun s => samePktB s P5) <;> cases tb <;> simp, HBL.out.trans (hW9.mono HBL.out.size)⟩
                      case measure => simp [intOf]; omega
                  · have hjj' : jj = sent.length := by omega
                    subst hjj'
                    obtain rfl : b = true := by have h := HBB.out; rw [List.take_length] at h; rw [h]; exact HMET.out
                    have hj1 : ¬ (sent.length : Int) < (sent.length : Int) := by omega
                    have hbl := HWc.out.trans (HBL.out.mono HWc.out.size)
                    have HBL2 := Lib.hid hbl
                    clear hbl
                    go_upto_region 30 with (fail)
                    clear hj1
                    have HRb := Lib.hid (HRa.out.below HBL2.out)
                    have hinv := PL2.out (by rw [HKk.out]; decide) (by rw [HKk.out]; decide)
                    have HINV := Lib.hid hinv
                    clear hinv
                    have bx := HBVX.out.below HBL.out
                    have bn := HRb.out.box
                    have z0 := bx.cell 0 rfl
                    have z1 := bx.cell 1 rfl
                    have y0 := bn.cell 0 rfl
                    have y1 := bn.cell 1 rfl
                    have fy0 := bn.free 0
                    have fy1 := bn.free 1
                    have BNB := Lib.hid bn
                    clear bx bn
                    go_upto_region 31 with (fail)
                    clear z0 z1 y0 y1 fy0 fy1
                    refine wp_name ?_
                    intro Wn hWn
                    have HT : Hid (SentRel w v1.heap.size W1.heap.size (.slice sa sent.length scap) X5 (sent) (cuts) (.slice qa5 X5.queue.length qc5) (.slice aa5 X5.apart.length ac5) Wn) := by
                      rw [hWn]
                      exact Lib.hid (SentRel.store BNB.out HRa.out.lo HRa.out.hi HRb.out.le HRb.out.by_ HINV.out (good_net.keep (dv_below HBL2.out).1 (dv_below HBL2.out).2 HDX.out) HRb.out.sent)
                    clear hWn
                    have hx := check_any X5 qa5 qc5 aa5 ac5 Wn (good_net.keep (fun b h => h.1) (fun _ _ => rfl) HT.out.net)
                    rw [netB_chk HINV.out.ok] at hx
                    have y0 := HT.out.box.cell 0 rfl
                    have y1 := HT.out.box.cell 1 rfl
                    go_wp2_with fail
                    refine hx.mono ?_
                    rintro e v20 ⟨rfl, hb20⟩
                    clear hx
                    clear y0 y1
                    go_wp2_with fail
                    go_roundw
                    case rel => exact ⟨k + 1, X5, sent, cuts, _, _, by omega, by omega, by omega, by go_num, rfl, HT.out.below hb20⟩
                    case measure => simp [intOf]; omega
          · have hKk : hapK mv = 2 := by have h1 := HKD.out; omega
            have HKk := Lib.hid hKk
            clear hKk
            go_upto_region 30 with (fail)
            clear hk6
            have hinv := PL2.out (by rw [HKk.out]; decide) (by rw [HKk.out]; decide)
            have HINV := Lib.hid hinv
            clear hinv
            have bx := HBVX.out
            have bn := HRa.out.box
            have z0 := bx.cell 0 rfl
            have z1 := bx.cell 1 rfl
            have y0 := bn.cell 0 rfl
            have y1 := bn.cell 1 rfl
            have fy0 := bn.free 0
            have fy1 := bn.free 1
            have BNB := Lib.hid bn
            clear bx bn
            go_upto_region 31 with (fail)
            clear z0 z1 y0 y1 fy0 fy1
            refine wp_name ?_
            intro Wn hWn
            have HT : Hid (SentRel w v1.heap.size W1.heap.size u4 X5 (sent) (cuts) (.slice qa5 X5.queue.length qc5) (.slice aa5 X5.apart.length ac5) Wn) := by
              rw [hWn]
              exact Lib.hid (SentRel.store BNB.out HRa.out.lo HRa.out.hi HRa.out.le HRa.out.by_ HINV.out HDX.out HRa.out.sent)
            clear hWn
            have hx := check_any X5 qa5 qc5 aa5 ac5 Wn (good_net.keep (fun b h => h.1) (fun _ _ => rfl) HT.out.net)
            rw [netB_chk HINV.out.ok] at hx
            have y0 := HT.out.box.cell 0 rfl
            have y1 := HT.out.box.cell 1 rfl
            go_wp2_with fail
            refine hx.mono ?_
            rintro e v20 ⟨rfl, hb20⟩
            clear hx
            clear y0 y1
            go_wp2_with fail
            go_roundw
            case rel => exact ⟨k + 1, X5, sent, cuts, _, _, by omega, by omega, by omega, by go_num, rfl, HT.out.below hb20⟩
            case measure => simp [intOf]; omega
          · have hKk : hapK mv = 3 := by have h1 := HKD.out; omega
            have HKk := Lib.hid hKk
            clear hKk
            go_upto_region 30 with (fail)
            clear hk6
            have hinv := PL2.out (by rw [HKk.out]; decide) (by rw [HKk.out]; decide)
            have HINV := Lib.hid hinv
            clear hinv
            have bx := HBVX.out
            have bn := HRa.out.box
            have z0 := bx.cell 0 rfl
            have z1 := bx.cell 1 rfl
            have y0 := bn.cell 0 rfl
            have y1 := bn.cell 1 rfl
            have fy0 := bn.free 0
            have fy1 := bn.free 1
            have BNB := Lib.hid bn
            clear bx bn
            go_upto_region 31 with (fail)
            clear z0 z1 y0 y1 fy0 fy1
            refine wp_name ?_
            intro Wn hWn
            have HT : Hid (SentRel w v1.heap.size W1.heap.size u4 X5 (sent) (cuts) (.slice qa5 X5.queue.length qc5) (.slice aa5 X5.apart.length ac5) Wn) := by
              rw [hWn]
              exact Lib.hid (SentRel.store BNB.out HRa.out.lo HRa.out.hi HRa.out.le HRa.out.by_ HINV.out HDX.out HRa.out.sent)
            clear hWn
            have hx := check_any X5 qa5 qc5 aa5 ac5 Wn (good_net.keep (fun b h => h.1) (fun _ _ => rfl) HT.out.net)
            rw [netB_chk HINV.out.ok] at hx
            have y0 := HT.out.box.cell 0 rfl
            have y1 := HT.out.box.cell 1 rfl
            go_wp2_with fail
            refine hx.mono ?_
            rintro e v20 ⟨rfl, hb20⟩
            clear hx
            clear y0 y1
            go_wp2_with fail
            go_roundw
            case rel => exact ⟨k + 1, X5, sent, cuts, _, _, by omega, by omega, by omega, by go_num, rfl, HT.out.below hb20⟩
            case measure => simp [intOf]; omega
          · have hKk : hapK mv = 4 := by have h1 := HKD.out; omega
            have HKk := Lib.hid hKk
            clear hKk
            go_upto_region 30 with (fail)
            clear hk6
            have hinv := PL3.out HKk.out
            have HINV := Lib.hid hinv
            clear hinv
            have bx := HBVX.out
            have bn := HRa.out.box
            have z0 := bx.cell 0 rfl
            have z1 := bx.cell 1 rfl
            have y0 := bn.cell 0 rfl
            have y1 := bn.cell 1 rfl
            have fy0 := bn.free 0
            have fy1 := bn.free 1
            have BNB := Lib.hid bn
            clear bx bn
            go_upto_region 31 with (fail)
            clear z0 z1 y0 y1 fy0 fy1
            refine wp_name ?_
            intro Wn hWn
            have HT : Hid (SentRel w v1.heap.size W1.heap.size u4 X5 (sent) (cuts + 1) (.slice qa5 X5.queue.length qc5) (.slice aa5 X5.apart.length ac5) Wn) := by
              rw [hWn]
              exact Lib.hid (SentRel.store BNB.out HRa.out.lo HRa.out.hi HRa.out.le HRa.out.by_ HINV.out HDX.out HRa.out.sent)
            clear hWn
            have hx := check_any X5 qa5 qc5 aa5 ac5 Wn (good_net.keep (fun b h => h.1) (fun _ _ => rfl) HT.out.net)
            rw [netB_chk HINV.out.ok] at hx
            have y0 := HT.out.box.cell 0 rfl
            have y1 := HT.out.box.cell 1 rfl
            go_wp2_with fail
            refine hx.mono ?_
            rintro e v20 ⟨rfl, hb20⟩
            clear hx
            clear y0 y1
            go_wp2_with fail
            go_roundw
            case rel => exact ⟨k + 1, X5, sent, cuts + 1, _, _, by omega, by omega, by omega, by go_num, by go_num, HT.out.below hb20⟩
            case measure => simp [intOf]; omega
          · have hKk : hapK mv = 5 := by have h1 := HKD.out; omega
            have HKk := Lib.hid hKk
            clear hKk
            go_upto_region 30 with (fail)
            clear hk6
            have hinv := PL2.out (by rw [HKk.out]; decide) (by rw [HKk.out]; decide)
            have HINV := Lib.hid hinv
            clear hinv
            have bx := HBVX.out
            have bn := HRa.out.box
            have z0 := bx.cell 0 rfl
            have z1 := bx.cell 1 rfl
            have y0 := bn.cell 0 rfl
            have y1 := bn.cell 1 rfl
            have fy0 := bn.free 0
            have fy1 := bn.free 1
            have BNB := Lib.hid bn
            clear bx bn
            go_upto_region 31 with (fail)
            clear z0 z1 y0 y1 fy0 fy1
            refine wp_name ?_
            intro Wn hWn
            have HT : Hid (SentRel w v1.heap.size W1.heap.size u4 X5 (sent) (cuts) (.slice qa5 X5.queue.length qc5) (.slice aa5 X5.apart.length ac5) Wn) := by
              rw [hWn]
              exact Lib.hid (SentRel.store BNB.out HRa.out.lo HRa.out.hi HRa.out.le HRa.out.by_ HINV.out HDX.out HRa.out.sent)
            clear hWn
            have hx := check_any X5 qa5 qc5 aa5 ac5 Wn (good_net.keep (fun b h => h.1) (fun _ _ => rfl) HT.out.net)
            rw [netB_chk HINV.out.ok] at hx
            have y0 := HT.out.box.cell 0 rfl
            have y1 := HT.out.box.cell 1 rfl
            go_wp2_with fail
            refine hx.mono ?_
            rintro e v20 ⟨rfl, hb20⟩
            clear hx
            clear y0 y1
            go_wp2_with fail
            go_roundw
            case rel => exact ⟨k + 1, X5, sent, cuts, _, _, by omega, by omega, by omega, by go_num, rfl, HT.out.below hb20⟩
            case measure => simp [intOf]; omega
        · have hXn : X5 = .nil := by rw [HX5.out]; exact hap_bad (by rw [← HE5.out]; exact hE)
          subst hXn
          have hE1 : (E5 != 0) = true := by simpa using hE
          have hE2 : (E5 == 0) = false := by simpa using hE
          have hx := check_any m qa qc aa ac U1 (good_net.keep (fun b h => h.1) (fun _ _ => rfl) HRa.out.net)
          rw [netB_chk HRa.out.inv.ok] at hx
          have x0 := HRa.out.box.cell 0 rfl
          have x1 := HRa.out.box.cell 1 rfl
          go_wp2_with fail
          refine hx.mono ?_
          rintro e v12 ⟨rfl, hb12⟩
          clear hx
          clear x0 x1
          have hx := same_any .nil .nil qa5 qc5 aa5 ac5 none 0 none 0 v12 (good_net.keep (fun b h => Nat.lt_of_lt_of_le h.1 hb12.size) (fun b h => hb12.block b h.1) HDX.out) (rnet_nil _ _)
          rw [show sameB NetM.nil NetM.nil = true from rfl] at hx
          have BVVX := HBVX.out.below hb12
          have qVX_0 := BVVX.cell 0 rfl
          have qVX_1 := BVVX.cell 1 rfl
          go_wp2_with fail
          refine hx.mono ?_
          rintro e v13 ⟨rfl, hb13⟩
          clear hx
          clear BVVX qVX_0 qVX_1
          go_wp2_with fail
          go_roundw
          case rel => exact ⟨k + 1, m, sent, cuts, _, _, by omega, by omega, by omega, by go_num, rfl, HRa.out.below (hb12.trans (hb13.mono hb12.size))⟩
          case measure => simp [intOf]; omega
      · have hkl' : ¬ (k : Int) < (l.length : Int) := by omega
        go_wp2
        go_ret
        exact ⟨rfl, HR.out.by_⟩
  · have h6 : (60 : Int) < (l.length : Int) := by omega
    go_wp2
    go_ret
    exact ⟨rfl, hb0⟩
end Go.Proofs.Ytmlhpchabnajkaa
