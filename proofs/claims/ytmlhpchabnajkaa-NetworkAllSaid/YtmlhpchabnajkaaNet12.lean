/- network: Lose, Repeat -/
import Derived.Test.YtmlhpchabnajkaaNet11
namespace Go.Proofs.Ytmlhpchabnajkaa
set_option linter.unusedSimpArgs false
set_option linter.unusedVariables false
open Go.RowKit
attribute [local go_sem ↓] Go.wp_at_zero Go.wp_at_succ
theorem askE_ok {n : NetM} {i : Int} (h : askE n i = 0) : 0 ≤ i ∧ i.toNat < n.queue.length ∧ n.queue.length ≤ 4096 ∧ i = (i.toNat : Nat) := by
  unfold askE at h
  cases hb : netB n
  · rw [hb] at h; simp at h
  · rw [hb] at h
    by_cases hi : 0 ≤ i ∧ i < n.queue.length
    · unfold netB at hb
      simp only [Bool.and_eq_true, decide_eq_true_eq] at hb
      omega
    · simp [hi] at h
theorem loseN_err {n : NetM} {i : Int} (h : askE n i ≠ 0) : loseN n i = .nil := by unfold loseN; rw [if_neg h]
theorem loseN_ok {n : NetM} {i : Int} (h : askE n i = 0) : loseN n i = dropAt n i.toNat := by unfold loseN; rw [if_pos h]
set_option maxRecDepth 100000 in
set_option maxHeartbeats 3000000 in
theorem lose_any (n : NetM) (i : Int) (qa : Option Addr) (qc : Nat) (aa : Option Addr) (ac : Nat) (w : World) (F : Nat → Prop) (hF : ∀ b, F b → b < w.heap.size) (hr : RNet F w n [.slice qa n.queue.length qc, .slice aa n.apart.length ac]) :
    Calls Try.prog 23 #[.agg #[.slice qa n.queue.length qc, .slice aa n.apart.length ac], .int .i64 i] w (NetRet F (loseN n i) (askE n i) w) := by
  have HFL := Lib.hid hF
  clear hF
  have HR := Lib.hid hr
  clear hr
  have HE := Lib.hid (loseN_err (n := n) (i := i))
  have HO := Lib.hid (loseN_ok (n := n) (i := i))
  have HK := Lib.hid (askE_ok (n := n) (i := i))
  have hb0 : Below w.heap.size w ((w.alloc (.cells #[.slice qa n.queue.length qc, .slice aa n.apart.length ac] 25)).alloc (.cells #[.slice none 0 0, .slice none 0 0] 25)) := (below_new _ _).alloc (by simp) _
  have HB0 := Lib.hid hb0
  clear hb0
  have HAT := Lib.hid (at_any n i qa qc aa ac _ F (fun b hb => Nat.lt_of_lt_of_le (HFL.out b hb) HB0.out.size) (good_net.same HFL.out HB0.out HR.out))
  generalize askE n i = er at *
  generalize loseN n i = m at *
  generalize atP n i = p at *
  go_enter Try.func23, Try.ntmps23
  go_wp2_with fail
  refine HAT.out.mono ?_
  rintro e w1 ⟨da, dc, rfl, _, hb1⟩
  have BX : Box w1 w.heap.size #[.slice qa n.queue.length qc, .slice aa n.apart.length ac] 25 := ((Box.new w _ _).alloc _).below hb1
  have BZ : Box w1 (w.heap.size + 1) #[.slice none 0 0, .slice none 0 0] 25 := by
    have h := (Box.new (w.alloc (.cells #[.slice qa n.queue.length qc, .slice aa n.apart.length ac] 25)) #[.slice none 0 0, .slice none 0 0] 25).below hb1
    simpa using h
  have HB1 := Lib.hid (HB0.out.trans (hb1.mono (by simp; omega)))
  clear hb1
  have HX := Lib.hid BX
  have HZ := Lib.hid BZ
  have x0 := BX.cell 0 rfl
  have x1 := BX.cell 1 rfl
  have z0 := BZ.cell 0 rfl
  have z1 := BZ.cell 1 rfl
  have fz0 := BZ.free 0
  have fz1 := BZ.free 1
  clear BX BZ HAT
  by_cases he : er = 0
  · subst he
    have hm := HO.out rfl
    obtain ⟨hi0, hik, hil, hie⟩ := HK.out rfl
    obtain ⟨k, hk⟩ : ∃ k, i.toNat = k := ⟨_, rfl⟩
    rw [hk] at hm hik hie
    subst hie
    clear hk
    go_wp2_with fail
    refine (without_any n k hik qa qc aa ac _ F (fun b hb => Nat.lt_of_lt_of_le (HFL.out b hb) HB1.out.size) (good_net.same HFL.out HB1.out HR.out) (by omega)).mono ?_
    rintro e w2 ⟨qb, qd, ab, ad, rfl, hrn, hb2⟩
    rw [← hm] at hrn
    have HM := Lib.hid hm
    subst hm
    have HZ2 := Lib.hid (HZ.out.below hb2)
    have HB2 := Lib.hid (HB1.out.trans (hb2.mono HB1.out.size))
    have c0 := HZ2.out.cell 0 rfl
    have c1 := HZ2.out.cell 1 rfl
    have fc0 := HZ2.out.free 0
    have fc1 := HZ2.out.free 1
    have HRN := Lib.hid hrn
    clear hrn hb2 x0 x1 z0 z1 fz0 fz1
    go_wp2
    have hsz1 := HZ.out.lt
    have B2 := ((HZ2.out.set 0 (.slice qb (dropAt n k).queue.length qd)).set 1 (.slice ab (dropAt n k).apart.length ad))
    refine bodyPost_ret (v := .tuple #[.agg #[.slice qb (dropAt n k).queue.length qd, .slice ab (dropAt n k).apart.length ad], .int .i64 0]) (by simp [results, Try.results23, go_sem, B2.cell 0 rfl, B2.cell 1 rfl]) rfl ⟨qb, qd, ab, ad, rfl, ?_, (HB2.out.setCell (by simp) _).setCell (by simp) _⟩
    refine good_net.keep (fun b hb => ?_) (fun b hb => ?_) HRN.out
    · refine ⟨hb.1.imp id (fun h => by omega), ?_⟩
      have := hb.2
      simp [World.setCell]; omega
    · have hb' : b < w.heap.size ∨ w1.heap.size ≤ b := hb.1.imp (HFL.out b) id
      rw [Below.heap_setCell _ _ _ _ (by show b ≠ w.heap.size + 1; omega), Below.heap_setCell _ _ _ _ (by show b ≠ w.heap.size + 1; omega)]
  · have hm := HE.out he
    subst hm
    go_wp2
    have B2 := ((HZ.out.set 0 (.slice none 0 0)).set 1 (.slice none 0 0))
    exact bodyPost_ret (v := .tuple #[.agg #[.slice none 0 0, .slice none 0 0], .int .i64 er]) (by simp [results, Try.results23, go_sem, B2.cell 0 rfl, B2.cell 1 rfl]) rfl ⟨none, 0, none, 0, rfl, rnet_nil _ _, (HB1.out.setCell (by simp) _).setCell (by simp) _⟩
end Go.Proofs.Ytmlhpchabnajkaa
