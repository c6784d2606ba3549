/- network: at, without -/
import Derived.Test.YtmlhpchabnajkaaNet8
namespace Go.Proofs.Ytmlhpchabnajkaa
set_option linter.unusedSimpArgs false
set_option linter.unusedVariables false
open Go.RowKit
attribute [local go_sem ↓] Go.wp_at_zero Go.wp_at_succ
attribute [local go_sem] gquiet gquietAt sameUpon growUpon leB_true
theorem atP_err {n : NetM} {i : Int} (h : askE n i ≠ 0) : atP n i = .nil := by unfold atP; rw [if_neg h]
theorem atP_ok {n : NetM} {i : Nat} (h : askE n i = 0) (hi : i < n.queue.length) : atP n i = n.queue[i] := by unfold atP; rw [if_pos h, Int.toNat_natCast, List.getElem?_eq_getElem hi]
set_option maxRecDepth 100000 in
set_option maxHeartbeats 3000000 in
theorem at_any (n : NetM) (i : Int) (qa : Option Addr) (qc : Nat) (aa : Option Addr) (ac : Nat) (w : World) (F : Nat → Prop) (hF : ∀ b, F b → b < w.heap.size) (hr : RNet F w n [.slice qa n.queue.length qc, .slice aa n.apart.length ac]) :
    Calls Try.prog 35 #[.agg #[.slice qa n.queue.length qc, .slice aa n.apart.length ac], .int .i64 i] w (PktRet F (atP n i) (askE n i) w) := by
  have HFL := Lib.hid hF
  clear hF
  have HR := Lib.hid hr
  clear hr
  have HK := Lib.hid (askE_cases n i)
  have HE := Lib.hid (atP_err (n := n) (i := i))
  have HO : Hid (∀ (k : Nat) (hk : k < n.queue.length), i = k → askE n i = 0 → atP n i = n.queue[k]) := fun k hk e h => by subst e; exact atP_ok h hk
  generalize askE n i = er at *
  generalize atP n i = p at *
  have hb0 : Below w.heap.size w ((w.alloc (.cells #[.slice qa n.queue.length qc, .slice aa n.apart.length ac] 25)).alloc (.cells #[.int .i64 0, .int .i64 0, .slice none 0 0] 28)) := (below_new _ _).alloc (by simp) _
  have HB0 := Lib.hid hb0
  clear hb0
  go_enter Try.func35, Try.ntmps35
  go_wp2_with fail
  refine (check_any n qa qc aa ac _ (good_net.below HB0.out (good_net.toNow HFL.out HR.out))).mono ?_
  rintro e w1 ⟨rfl, hb1⟩
  have BX : Box w1 w.heap.size #[.slice qa n.queue.length qc, .slice aa n.apart.length ac] 25 := ((Box.new w _ _).alloc _).below hb1
  have BZ : Box w1 (w.heap.size + 1) #[.int .i64 0, .int .i64 0, .slice none 0 0] 28 := by
    have h := (Box.new (w.alloc (.cells #[.slice qa n.queue.length qc, .slice aa n.apart.length ac] 25)) #[.int .i64 0, .int .i64 0, .slice none 0 0] 28).below hb1
    simpa using h
  have HB1 := Lib.hid (HB0.out.trans (hb1.mono (by simp; omega)))
  clear hb1
  have HX := Lib.hid BX
  have HZ := Lib.hid BZ
  have x0 := BX.cell 0 rfl
  have z0 := BZ.cell 0 rfl
  have z1 := BZ.cell 1 rfl
  have z2 := BZ.cell 2 rfl
  have fz0 := BZ.free 0
  have fz1 := BZ.free 1
  have fz2 := BZ.free 2
  clear BX BZ
  have key := HK.out
  clear HK
  generalize chk n = c at *
  rcases key with ⟨h1, h2⟩ | ⟨h1, h2, h3⟩ | ⟨h1, h2, h3, h4⟩
  · subst h2
    have hm := HE.out (by decide)
    subst hm
    go_wp2
    have B2 := ((HZ.out.set 0 (.int .i64 0)).set 1 (.int .i64 0)).set 2 (.slice none 0 0)
    exact bodyPost_ret (v := .tuple #[.agg #[.int .i64 0, .int .i64 0, .slice none 0 0], .int .i64 60]) (by simp [results, Try.results35, go_sem, B2.cell 0 rfl, B2.cell 1 rfl, B2.cell 2 rfl]) rfl ⟨none, 0, rfl, rpk_nil _ _, ((HB1.out.setCell (by simp) _).setCell (by simp) _).setCell (by simp) _⟩
  · subst h1 h3
    have hm := HE.out (by decide)
    subst hm
    by_cases hi : i < 0
    · go_wp2
      have B2 := ((HZ.out.set 0 (.int .i64 0)).set 1 (.int .i64 0)).set 2 (.slice none 0 0)
      exact bodyPost_ret (v := .tuple #[.agg #[.int .i64 0, .int .i64 0, .slice none 0 0], .int .i64 1]) (by simp [results, Try.results35, go_sem, B2.cell 0 rfl, B2.cell 1 rfl, B2.cell 2 rfl]) rfl ⟨none, 0, rfl, rpk_nil _ _, ((HB1.out.setCell (by simp) _).setCell (by simp) _).setCell (by simp) _⟩
    · have hi2 : (n.queue.length : Int) ≤ i := by omega
      clear h2
      go_wp2
      have B2 := ((HZ.out.set 0 (.int .i64 0)).set 1 (.int .i64 0)).set 2 (.slice none 0 0)
      exact bodyPost_ret (v := .tuple #[.agg #[.int .i64 0, .int .i64 0, .slice none 0 0], .int .i64 1]) (by simp [results, Try.results35, go_sem, B2.cell 0 rfl, B2.cell 1 rfl, B2.cell 2 rfl]) rfl ⟨none, 0, rfl, rpk_nil _ _, ((HB1.out.setCell (by simp) _).setCell (by simp) _).setCell (by simp) _⟩
  · subst h1 h4
    obtain ⟨k, rfl⟩ : ∃ k : Nat, i = k := ⟨i.toNat, by omega⟩
    have hk : k < n.queue.length := by omega
    have hm := HO.out k hk rfl rfl
    obtain ⟨_, _, _, _, e, hq1, hq2, hq3, ha1, ha2, ha3⟩ := HR.out
    cases e
    have hq4 : RRow 3 RPk F w1 n.queue qa := good_row_same good_pk HFL.out HB1.out hq3
    obtain ⟨b, off, cs, rfl, hbl, hpk, hcc⟩ := hq4 k hk
    obtain ⟨da, dc, rfl, hp⟩ := hpk
    have g0 : w1.cell? ⟨b, off + k * 3, none⟩ = _ := hcc 0 _ rfl
    have g1 : w1.cell? ⟨b, off + k * 3 + 1, none⟩ = _ := hcc 1 _ rfl
    have g2 : w1.cell? ⟨b, off + k * 3 + 2, none⟩ = _ := hcc 2 _ rfl
    have HP : Hid (RPk F w1 n.queue[k] [.int .i64 n.queue[k].src, .int .i64 n.queue[k].dst, .slice da n.queue[k].data.length dc]) := ⟨da, dc, rfl, hp⟩
    rw [← hm] at g0 g1 g2 HP
    have hk1 : (k : Int) < (n.queue.length : Int) := by omega
    clear hm hcc hp hq3 hq4 ha3
    go_wp2
    have B2 := ((HZ.out.set 0 (.int .i64 p.src)).set 1 (.int .i64 p.dst)).set 2 (.slice da p.data.length dc)
    refine bodyPost_ret (v := .tuple #[.agg #[.int .i64 p.src, .int .i64 p.dst, .slice da p.data.length dc], .int .i64 0]) (by simp [results, Try.results35, go_sem, B2.cell 0 rfl, B2.cell 1 rfl, B2.cell 2 rfl]) rfl ⟨da, dc, rfl, ?_, ((HB1.out.setCell (by simp) _).setCell (by simp) _).setCell (by simp) _⟩
    refine good_pk.keep (fun b hb => ?_) (fun b hb => ?_) HP.out
    · have h1 := HB1.out.size
      have h2 := HFL.out b hb
      refine ⟨.inl hb, ?_⟩
      simp [World.setCell]; omega
    · have := HFL.out b hb
      rw [Below.heap_setCell _ _ _ _ (by show b ≠ w.heap.size + 1; omega), Below.heap_setCell _ _ _ _ (by show b ≠ w.heap.size + 1; omega), Below.heap_setCell _ _ _ _ (by show b ≠ w.heap.size + 1; omega)]
end Go.Proofs.Ytmlhpchabnajkaa
