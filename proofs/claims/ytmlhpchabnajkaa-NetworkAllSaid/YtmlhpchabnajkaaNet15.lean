/- network.Deliver -/
import Derived.Test.YtmlhpchabnajkaaNet14
namespace Go.Proofs.Ytmlhpchabnajkaa
set_option linter.unusedSimpArgs false
set_option linter.unusedVariables false
open Go.RowKit
attribute [local go_sem ↓] Go.wp_at_zero Go.wp_at_succ
attribute [local go_sem] gquiet gquietAt sameUpon growUpon leB_true
def DelRet (F : Nat → Prop) (p : Pkt) (m : NetM) (err : Int) (w : World) (e : Ending) (w' : World) : Prop :=
  ∃ da dc qa qc aa ac, e = .returned (.tuple #[.agg #[.int .i64 p.src, .int .i64 p.dst, .slice da p.data.length dc], .agg #[.slice qa m.queue.length qc, .slice aa m.apart.length ac], .int .i64 err]) ∧
    RPk (Fr F w w') w' p [.int .i64 p.src, .int .i64 p.dst, .slice da p.data.length dc] ∧ RNet (Fr F w w') w' m [.slice qa m.queue.length qc, .slice aa m.apart.length ac] ∧ Below w.heap.size w w'
theorem DelRet.drew {F : Nat → Prop} {p : Pkt} {m : NetM} {err : Int} {w : World} {e : Ending} {w' : World} (h : DelRet F p m err w e w') : DelRet F p m err w e w'.drew := by
  obtain ⟨da, dc, qa, qc, aa, ac, h1, h2, h3, h4⟩ := h
  exact ⟨da, dc, qa, qc, aa, ac, h1, good_pk.keep (fun _ h => h) (fun _ _ => rfl) h2, good_net.keep (fun _ h => h) (fun _ _ => rfl) h3, below_drewN h4 1⟩
theorem delP_err {n : NetM} {i : Int} (h : askE n i ≠ 0) : delP n i = .nil ∧ loseN n i = .nil := by unfold delP loseN; rw [if_neg h, if_neg h]; exact ⟨rfl, rfl⟩
theorem delP_ok {n : NetM} {i : Int} (h : askE n i = 0) : delP n i = (if cutB n.apart (atP n i).src (atP n i).dst then .nil else atP n i) ∧ loseN n i = dropAt n i.toNat := by
  obtain ⟨_, h2, _⟩ := askE_ok h
  unfold delP loseN atP
  rw [if_pos h, if_pos h, if_pos h, List.getElem?_eq_getElem h2]
  exact ⟨rfl, rfl⟩
/-- the two results' variables are set -/
def setDel (W : World) (s : Nat) (a b c d e : Value) : World := ((((W.setCell ⟨s + 1, 0, none⟩ a).setCell ⟨s + 1, 1, none⟩ b).setCell ⟨s + 1, 2, none⟩ c).setCell ⟨s + 1 + 1, 0, none⟩ d).setCell ⟨s + 1 + 1, 1, none⟩ e
theorem setDel_heap (W : World) (s : Nat) (a b c d e : Value) (k : Nat) (h1 : k ≠ s + 1) (h2 : k ≠ s + 1 + 1) : (setDel W s a b c d e).heap[k]? = W.heap[k]? := by
  unfold setDel
  rw [Below.heap_setCell _ _ _ _ (by show k ≠ s + 1 + 1; exact h2), Below.heap_setCell _ _ _ _ (by show k ≠ s + 1 + 1; exact h2), Below.heap_setCell _ _ _ _ (by show k ≠ s + 1; exact h1), Below.heap_setCell _ _ _ _ (by show k ≠ s + 1; exact h1), Below.heap_setCell _ _ _ _ (by show k ≠ s + 1; exact h1)]
theorem setDel_size (W : World) (s : Nat) (a b c d e : Value) : (setDel W s a b c d e).heap.size = W.heap.size := by simp [setDel, World.setCell]
theorem setDel_below {w W : World} (a b c d e : Value) (h : Below w.heap.size w W) : Below w.heap.size w (setDel W w.heap.size a b c d e) := ((((h.setCell (by simp) _).setCell (by simp) _).setCell (by simp) _).setCell (by simp; omega) _).setCell (by simp; omega) _
theorem del_end {w W : World} {F : Nat → Prop} {p : Pkt} {m : NetM} {da : Option Addr} {dc : Nat} {qb : Option Addr} {qd : Nat} {ab : Option Addr} {ad : Nat} {B : Nat} (er : Int) (hF : ∀ b, F b → b < w.heap.size) (hB : w.heap.size + 1 + 1 < B) (hb : Below w.heap.size w W)
    (hp : RPk (fun b => (F b ∨ w.heap.size + 1 + 1 + 1 ≤ b) ∧ b < W.heap.size) W p [.int .i64 p.src, .int .i64 p.dst, .slice da p.data.length dc])
    (hn : RNet (InF (GF F B) W) W m [.slice qb m.queue.length qd, .slice ab m.apart.length ad]) :
    DelRet F p m er w (.returned (.tuple #[.agg #[.int .i64 p.src, .int .i64 p.dst, .slice da p.data.length dc], .agg #[.slice qb m.queue.length qd, .slice ab m.apart.length ad], .int .i64 er])) (setDel W w.heap.size (.int .i64 p.src) (.int .i64 p.dst) (.slice da p.data.length dc) (.slice qb m.queue.length qd) (.slice ab m.apart.length ad)) := by
  refine ⟨da, dc, qb, qd, ab, ad, rfl, good_pk.keep (fun b hb => ⟨hb.1.imp id (fun h => by omega), ?_⟩) (fun b hb => ?_) hp, good_net.keep (fun b hb => ⟨hb.1.imp id (fun h => by omega), ?_⟩) (fun b hb => ?_) hn, setDel_below _ _ _ _ _ hb⟩
  all_goals first
    | (rw [setDel_size]; exact hb.2)
    | (refine setDel_heap _ _ _ _ _ _ _ _ ?_ ?_ <;> (rcases hb.1 with h | h; (have := hF b h; omega); omega))
set_option maxRecDepth 100000 in
set_option maxHeartbeats 3000000 in
theorem deliver_any (n : NetM) (i : Int) (qa : Option Addr) (qc : Nat) (aa : Option Addr) (ac : Nat) (w : World) (F : Nat → Prop) (hF : ∀ b, F b → b < w.heap.size) (hr : RNet F w n [.slice qa n.queue.length qc, .slice aa n.apart.length ac]) :
    Calls Try.prog 18 #[.agg #[.slice qa n.queue.length qc, .slice aa n.apart.length ac], .int .i64 i] w (DelRet F (delP n i) (loseN n i) (askE n i) w) := by
  have HFL := Lib.hid hF
  clear hF
  have HR := Lib.hid hr
  clear hr
  have HE := Lib.hid (delP_err (n := n) (i := i))
  have HO := Lib.hid (delP_ok (n := n) (i := i))
  have HK := Lib.hid (askE_ok (n := n) (i := i))
  have HAE := Lib.hid (atP_err (n := n) (i := i))
  have hb0 : Below w.heap.size w (((w.alloc (.cells #[.slice qa n.queue.length qc, .slice aa n.apart.length ac] 25)).alloc (.cells #[.int .i64 0, .int .i64 0, .slice none 0 0] 28)).alloc (.cells #[.slice none 0 0, .slice none 0 0] 25)) := ((below_new _ _).alloc (by simp) _).alloc (by simp; omega) _
  have HB0 := Lib.hid hb0
  clear hb0
  have HAT := Lib.hid (at_any n i qa qc aa ac _ F (fun b hb => Nat.lt_of_lt_of_le (HFL.out b hb) HB0.out.size) (good_net.same HFL.out HB0.out HR.out))
  generalize delP n i = dp at *
  generalize loseN n i = m at *
  generalize askE n i = er at *
  generalize atP n i = p at *
  go_enter Try.func18, Try.ntmps18
  go_wp2_with fail
  refine HAT.out.mono ?_
  rintro e w1 ⟨da, dc, rfl, hpk, hb1⟩
  have BX : Box w1 w.heap.size #[.slice qa n.queue.length qc, .slice aa n.apart.length ac] 25 := (((Box.new w _ _).alloc _).alloc _).below hb1
  have BY : Box w1 (w.heap.size + 1) #[.int .i64 0, .int .i64 0, .slice none 0 0] 28 := by
    have h := ((Box.new (w.alloc (.cells #[.slice qa n.queue.length qc, .slice aa n.apart.length ac] 25)) #[.int .i64 0, .int .i64 0, .slice none 0 0] 28).alloc (.cells #[.slice none 0 0, .slice none 0 0] 25)).below hb1
    simpa using h
  have BZ : Box w1 (w.heap.size + 1 + 1) #[.slice none 0 0, .slice none 0 0] 25 := by
    have h := (Box.new ((w.alloc (.cells #[.slice qa n.queue.length qc, .slice aa n.apart.length ac] 25)).alloc (.cells #[.int .i64 0, .int .i64 0, .slice none 0 0] 28)) #[.slice none 0 0, .slice none 0 0] 25).below hb1
    simpa using h
  have HB1 := Lib.hid (HB0.out.trans (hb1.mono (by simp; omega)))
  have hpk' : RPk (fun b => (F b ∨ w.heap.size + 1 + 1 + 1 ≤ b) ∧ b < w1.heap.size) w1 p [.int .i64 p.src, .int .i64 p.dst, .slice da p.data.length dc] := good_pk.keep (fun b hb => ⟨hb.1.imp id (fun h => by simpa using h), hb.2⟩) (fun _ _ => rfl) hpk
  have HPK := Lib.hid hpk'
  clear hb1 hpk hpk'
  have y0 := BY.cell 0 rfl
  have y1 := BY.cell 1 rfl
  have y2 := BY.cell 2 rfl
  have fy0 := BY.free 0
  have fy1 := BY.free 1
  have fy2 := BY.free 2
  -- the packet is stored into its variable
  obtain ⟨w2, hw2⟩ : ∃ w2, w2 = ((w1.setCell ⟨w.heap.size + 1, 0, none⟩ (.int .i64 p.src)).setCell ⟨w.heap.size + 1, 1, none⟩ (.int .i64 p.dst)).setCell ⟨w.heap.size + 1, 2, none⟩ (.slice da p.data.length dc) := ⟨_, rfl⟩
  have CX : Box w2 w.heap.size #[.slice qa n.queue.length qc, .slice aa n.apart.length ac] 25 := by rw [hw2]; exact ((BX.other (by omega) _).other (by omega) _).other (by omega) _
  have CZ : Box w2 (w.heap.size + 1 + 1) #[.slice none 0 0, .slice none 0 0] 25 := by rw [hw2]; exact ((BZ.other (by omega) _).other (by omega) _).other (by omega) _
  have CY : Box w2 (w.heap.size + 1) #[.int .i64 p.src, .int .i64 p.dst, .slice da p.data.length dc] 28 := by rw [hw2]; exact ((BY.set 0 _).set 1 _).set 2 _
  have HB2 : Hid (Below w.heap.size w w2) := by rw [hw2]; exact ((HB1.out.setCell (by simp) _).setCell (by simp) _).setCell (by simp) _
  have hs2 : w2.heap.size = w1.heap.size := by rw [hw2]; simp [World.setCell]
  have HPK2 : Hid (RPk (fun b => (F b ∨ w.heap.size + 1 + 1 + 1 ≤ b) ∧ b < w2.heap.size) w2 p [.int .i64 p.src, .int .i64 p.dst, .slice da p.data.length dc]) := by
    rw [hs2]
    refine good_pk.keep (fun b hb => hb) (fun b hb => ?_) HPK.out
    have hb' : b ≠ w.heap.size + 1 := by rcases hb.1 with h | h; have := HFL.out b h; omega; omega
    rw [hw2, Below.heap_setCell _ _ _ _ (by show b ≠ w.heap.size + 1; exact hb'), Below.heap_setCell _ _ _ _ (by show b ≠ w.heap.size + 1; exact hb'), Below.heap_setCell _ _ _ _ (by show b ≠ w.heap.size + 1; exact hb')]
  clear BX BY BZ HAT HPK hs2
  have HX := Lib.hid CX
  have HY := Lib.hid CY
  have HZ := Lib.hid CZ
  have x0 := CX.cell 0 rfl
  have x1 := CX.cell 1 rfl
  have p0 := CY.cell 0 rfl
  have p1 := CY.cell 1 rfl
  have p2 := CY.cell 2 rfl
  have z0 := CZ.cell 0 rfl
  have z1 := CZ.cell 1 rfl
  clear CX CY CZ
  by_cases he : er = 0
  · subst he
    obtain ⟨hdp, hm⟩ := HO.out rfl
    obtain ⟨hi0, hik, hil, hie⟩ := HK.out rfl
    obtain ⟨k, hk⟩ : ∃ k, i.toNat = k := ⟨_, rfl⟩
    rw [hk] at hik hie hm
    subst hie
    clear hk HK
    go_wp2_with fail
    rw [← hw2]
    clear hw2 y0 y1 y2 fy0 fy1 fy2 HO HE HAE
    obtain ⟨_, _, _, _, e, hq1, hq2, hq3, ha1, ha2, ha3⟩ := HR.out
    cases e
    have HA3 : Hid (Row 2 RPr w n.apart aa) := ha3.keep good_pr HFL.out (fun _ _ => rfl)
    have HC1 : Hid (∀ q : Later w2, Calls Try.prog 37 #[.int .i64 p.src, .int .i64 p.dst] q.W fun e w'' => e = .returned (.agg #[.int .i64 (min p.src p.dst), .int .i64 (max p.src p.dst)]) ∧ ∃ q' : Later w2, w'' = q'.W) := fun q => later_of q (between_any _ _ _)
    have HC2 : Hid (∀ q : Later w2, Calls Try.prog 36 #[.slice aa n.apart.length ac, .agg #[.int .i64 (min p.src p.dst), .int .i64 (max p.src p.dst)]] q.W fun e w'' => e = .returned (.bool (cutB n.apart p.src p.dst)) ∧ ∃ q' : Later w2, w'' = q'.W) := fun q => later_of q (containsPr_any n.apart aa ac (linkOf p.src p.dst) q.W (HA3.out.below good_pr (HB2.out.trans (q.by_.mono HB2.out.size))) ha2)
    generalize cutB n.apart p.src p.dst = cb at *
    clear hq3 ha3
    have v0 := fun q : Later w2 => q.cell x0
    have v1 := fun q : Later w2 => q.cell x1
    have u0 := fun q : Later w2 => q.cell p0
    have u1 := fun q : Later w2 => q.cell p1
    refine wp_region_later (by kernel_rfl) (by kernel_rfl) ?_
    repeat (first | go_big_quiet_skip | quiet_step (with_reducible first | exact HC1.out _ | exact HC2.out _))
    refine wpQuiet_nil ?_
    intro _ hw'
    obtain ⟨⟨W9, hW9⟩, rfl⟩ := hw'
    rename_i V
    have X9 := HX.out.below hW9
    have Y9 := HY.out.below hW9
    have Z9 := HZ.out.below hW9
    have B9 := HB2.out.trans (hW9.mono HB2.out.size)
    have P9 : RPk (fun b => (F b ∨ w.heap.size + 1 + 1 + 1 ≤ b) ∧ b < V.heap.size) V p [.int .i64 p.src, .int .i64 p.dst, .slice da p.data.length dc] := good_pk.keep (fun b hb => ⟨hb.1, Nat.lt_of_lt_of_le hb.2 hW9.size⟩) (fun b hb => hW9.block b hb.2) HPK2.out
    clear v0 v1 u0 u1 x0 x1 p0 p1 p2 z0 z1 HC1 HC2 HX HY HZ HB2 HPK2 hW9
    have HM := Lib.hid hm
    clear hm
    cases cb
    case' false =>
      rw [if_neg (by simp)] at hdp
      subst hdp
      have HX := Lib.hid X9
      have HY := Lib.hid Y9
      have HZ := Lib.hid Z9
      have HB := Lib.hid B9
      have HP := Lib.hid P9
      have x0 := X9.cell 0 rfl
      have x1 := X9.cell 1 rfl
      have p0 := Y9.cell 0 rfl
      have p1 := Y9.cell 1 rfl
      have p2 := Y9.cell 2 rfl
      clear X9 Y9 Z9 B9 P9
      go_wp2_with fail
    case' true =>
      rw [if_pos rfl] at hdp
      have e1 : dp.src = 0 := by rw [hdp]; rfl
      have e2 : dp.dst = 0 := by rw [hdp]; rfl
      have e3 : dp.data.length = 0 := by rw [hdp]; rfl
      have HN : Hid (∀ F w, RPk F w dp [.int .i64 dp.src, .int .i64 dp.dst, .slice none dp.data.length 0]) := fun F w => by rw [hdp]; exact rpk_nil F w
      have q0 := Y9.cell 0 rfl
      have q1 := Y9.cell 1 rfl
      have q2 := Y9.cell 2 rfl
      have fq0 := Y9.free 0
      have fq1 := Y9.free 1
      have fq2 := Y9.free 2
      obtain ⟨V', hV'⟩ : ∃ V', V' = ((V.setCell ⟨w.heap.size + 1, 0, none⟩ (.int .i64 0)).setCell ⟨w.heap.size + 1, 1, none⟩ (.int .i64 0)).setCell ⟨w.heap.size + 1, 2, none⟩ (.slice none 0 0) := ⟨_, rfl⟩
      have HX : Hid (Box V' w.heap.size #[.slice qa n.queue.length qc, .slice aa n.apart.length ac] 25) := by rw [hV']; exact ((X9.other (by omega) _).other (by omega) _).other (by omega) _
      have HZ : Hid (Box V' (w.heap.size + 1 + 1) #[.slice none 0 0, .slice none 0 0] 25) := by rw [hV']; exact ((Z9.other (by omega) _).other (by omega) _).other (by omega) _
      have HY : Hid (Box V' (w.heap.size + 1) #[.int .i64 dp.src, .int .i64 dp.dst, .slice none dp.data.length 0] 28) := by rw [hV', e1, e2, e3]; exact ((Y9.set 0 _).set 1 _).set 2 _
      have HB : Hid (Below w.heap.size w V') := by rw [hV']; exact ((B9.setCell (by simp) _).setCell (by simp) _).setCell (by simp) _
      have HV := Lib.hid hV'
      clear hdp e1 e2 e3 hV' X9 Y9 Z9 B9 P9
      go_wp2_with fail
      rw [← HV.out]
      clear HV q0 q1 q2 fq0 fq1 fq2 V
      obtain ⟨da, hda⟩ : ∃ da : Option Addr, da = none := ⟨_, rfl⟩
      obtain ⟨dc, hdc⟩ : ∃ dc : Nat, dc = 0 := ⟨_, rfl⟩
      rw [← hda, ← hdc] at HY HN
      have HP := Lib.hid (HN.out (fun b => (F b ∨ w.heap.size + 1 + 1 + 1 ≤ b) ∧ b < V'.heap.size) V')
      obtain ⟨V, hV⟩ : ∃ V, V = V' := ⟨_, rfl⟩
      subst hV
      have x0 := HX.out.cell 0 rfl
      have x1 := HX.out.cell 1 rfl
      have p0 := HY.out.cell 0 rfl
      have p1 := HY.out.cell 1 rfl
      have p2 := HY.out.cell 2 rfl
      clear HN hda hdc
    all_goals
      have r0 := fun q : LaterG LeB V.drew => q.drewCell x0
      have r1 := fun q : LaterG LeB V.drew => q.drewCell x1
      have r2 := fun q : LaterG LeB V.drew => q.drewCell p0
      have r3 := fun q : LaterG LeB V.drew => q.drewCell p1
      have r4 := fun q : LaterG LeB V.drew => q.drewCell p2
      have HS : Hid (∀ W, Below w.heap.size w W → Calls Try.prog 38 #[.agg #[.slice qa n.queue.length qc, .slice aa n.apart.length ac], .int .i64 k] W (GivesNet F m W)) := fun W hW => by
        rw [HM.out]
        exact without_any n k hik qa qc aa ac W F (fun b hb => Nat.lt_of_lt_of_le (HFL.out b hb) hW.size) (good_net.same HFL.out hW HR.out) (by omega)
      refine wp_region_grow [0, 1, 2, 3] [4, 5, 6] LeB (tbl [(3, AggNet (GF F V.heap.size) m)]) (hvOf [(3, [])]) (by kernel_rfl) (by kernel_rfl) (by kernel_rfl) (lawful_cons (aggNet_stable _ _) lawful_nil) (leB_refl _) ?_
      simp only [pickOps, List.getElem?_cons_zero, List.getElem?_cons_succ, List.map_cons, List.map_nil]
      repeat (refine wpG_step rfl (fun K hK => ?_); go_simp; refine hK _ ?_; clear hK K)
      refine wpG_heavy rfl rfl (fun q _ => ?_) (fun v6 => ?_)
      · go_simp
        refine (HS.out q.W (HB.out.trans (q.below.mono HB.out.size))).mono ?_
        rintro e W'' ⟨qb, qd, ab, ad, rfl, hrn, hb⟩
        exact ⟨_, rfl, hb, qb, qd, ab, ad, rfl, good_net.keep (fun b hb' => ⟨hb'.1.imp id (fun h => Nat.le_trans q.below.size h), hb'.2⟩) (fun _ _ => rfl) hrn⟩
      simp only [Act.put, List.setIfInBounds_toArray, List.set_cons_zero, List.set_cons_succ]
      refine wpG_nil ?_
      intro q hf
      obtain ⟨qb, qd, ab, ad, hv, hrn⟩ : AggNet (GF F V.heap.size) m v6 q.W := hf 3 [] (by simp) rfl
      subst hv
      have HY2 := Lib.hid (HY.out.below q.below)
      have HZ2 := Lib.hid (HZ.out.below q.below)
      have HB3 := Lib.hid (HB.out.trans (q.below.mono HB.out.size))
      have HP2 : Hid (RPk (fun b => (F b ∨ w.heap.size + 1 + 1 + 1 ≤ b) ∧ b < q.W.heap.size) q.W dp [.int .i64 dp.src, .int .i64 dp.dst, .slice da dp.data.length dc]) := good_pk.keep (fun b hb => ⟨hb.1, Nat.lt_of_lt_of_le hb.2 q.below.size⟩) (fun b hb => q.below.block b hb.2) HP.out
      have hz := HZ.out.lt
      have HL := Lib.hid hz
      have c0 := HZ2.out.cell 0 rfl
      have c1 := HZ2.out.cell 1 rfl
      have fc0 := HZ2.out.free 0
      have fc1 := HZ2.out.free 1
      have d0 := HY2.out.cell 0 rfl
      have d1 := HY2.out.cell 1 rfl
      have d2 := HY2.out.cell 2 rfl
      have fd0 := HY2.out.free 0
      have fd1 := HY2.out.free 1
      have fd2 := HY2.out.free 2
      have HRN := Lib.hid hrn
      clear hrn hf r0 r1 r2 r3 r4 x0 x1 p0 p1 p2 hz
      obtain ⟨W, W2by⟩ := q
      simp only at HY2 HZ2 HB3 c0 c1 fc0 fc1 d0 d1 d2 fd0 fd1 fd2 HRN HP2 ⊢
      go_wp2
      have BY := ((((HY2.out.set 0 (.int .i64 dp.src)).set 1 (.int .i64 dp.dst)).set 2 (.slice da dp.data.length dc)).other (o := 0) (show w.heap.size + 1 ≠ w.heap.size + 1 + 1 by omega) (.slice qb m.queue.length qd)).other (o := 1) (show w.heap.size + 1 ≠ w.heap.size + 1 + 1 by omega) (.slice ab m.apart.length ad)
      have BZ := ((((HZ2.out.other (o := 0) (show w.heap.size + 1 + 1 ≠ w.heap.size + 1 by omega) (.int .i64 dp.src)).other (o := 1) (show w.heap.size + 1 + 1 ≠ w.heap.size + 1 by omega) (.int .i64 dp.dst)).other (o := 2) (show w.heap.size + 1 + 1 ≠ w.heap.size + 1 by omega) (.slice da dp.data.length dc)).set 0 (.slice qb m.queue.length qd)).set 1 (.slice ab m.apart.length ad)
      exact bodyPost_ret (v := .tuple #[.agg #[.int .i64 dp.src, .int .i64 dp.dst, .slice da dp.data.length dc], .agg #[.slice qb m.queue.length qd, .slice ab m.apart.length ad], .int .i64 0]) (by simp [results, Try.results18, go_sem, BY.cell 0 rfl, BY.cell 1 rfl, BY.cell 2 rfl, BZ.cell 0 rfl, BZ.cell 1 rfl]) rfl (del_end 0 HFL.out HL.out HB3.out HP2.out HRN.out)
  · obtain ⟨hdp, hm⟩ := HE.out he
    have hp := HAE.out he
    have HPD : Hid (p = dp) := hp.trans hdp.symm
    have HMN := Lib.hid hm
    clear hdp hm hp HE HAE HO HK
    go_wp2_with fail
    rw [← hw2]
    clear hw2 y0 y1 y2 fy0 fy1 fy2
    have fz0 := HZ.out.free 0
    have fz1 := HZ.out.free 1
    have fp0 := HY.out.free 0
    have fp1 := HY.out.free 1
    have fp2 := HY.out.free 2
    have hz := HZ.out.lt
    have HL := Lib.hid hz
    clear hz
    go_region
    go_wp2
    have hpd := HPD.out
    have hmn := HMN.out
    subst hpd hmn
    have BY := (((((HY.out.set 0 (.int .i64 p.src)).set 1 (.int .i64 p.dst)).set 2 (.slice da p.data.length dc)).other (o := 0) (show w.heap.size + 1 ≠ w.heap.size + 1 + 1 by omega) (.slice none 0 0)).other (o := 1) (show w.heap.size + 1 ≠ w.heap.size + 1 + 1 by omega) (.slice none 0 0)).drew
    have BZ := (((((HZ.out.other (o := 0) (show w.heap.size + 1 + 1 ≠ w.heap.size + 1 by omega) (.int .i64 p.src)).other (o := 1) (show w.heap.size + 1 + 1 ≠ w.heap.size + 1 by omega) (.int .i64 p.dst)).other (o := 2) (show w.heap.size + 1 + 1 ≠ w.heap.size + 1 by omega) (.slice da p.data.length dc)).set 0 (.slice none 0 0)).set 1 (.slice none 0 0)).drew
    refine bodyPost_ret (v := .tuple #[.agg #[.int .i64 p.src, .int .i64 p.dst, .slice da p.data.length dc], .agg #[.slice none 0 0, .slice none 0 0], .int .i64 er]) (by simp [results, Try.results18, go_sem, BY.cell 0 rfl, BY.cell 1 rfl, BY.cell 2 rfl, BZ.cell 0 rfl, BZ.cell 1 rfl]) rfl ?_
    exact DelRet.drew (del_end (B := w2.heap.size) er HFL.out HL.out HB2.out HPK2.out (rnet_nil _ _))
end Go.Proofs.Ytmlhpchabnajkaa
