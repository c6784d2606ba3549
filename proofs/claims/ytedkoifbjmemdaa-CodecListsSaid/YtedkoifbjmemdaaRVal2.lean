/- frankingref01: the reader's texts -/
import Derived.Test.YtedkoifbjmemdaaRVal
namespace Go.Proofs.Ytedkoifbjmemdaa
open Go.RowKit
attribute [local go_sem ↓] Go.wp_at_zero Go.wp_at_succ
theorem RVal.drew {d : Nat} {bs : List UInt8} {at_ R : Nat} {w W : World} {e : Ending} (h : RVal d bs at_ R w e W) : RVal d bs at_ R w e W.drew := by
  obtain ⟨h1, h2⟩ := h
  refine ⟨⟨h1.os, h1.tape, h1.output, h1.size, h1.block⟩, h2.imp ?_ id⟩
  rintro ⟨v, r, c, at', a1, a2, a3, a4⟩
  exact ⟨v, r, c, at', a1, a2, RepF.keep (w := W) (w' := W.drew) (F := fun b => w.heap.size ≤ b ∧ b < W.heap.size) (F' := fun b => w.heap.size ≤ b ∧ b < W.drew.heap.size) (fun _ h => h) (fun _ _ => rfl) a3, a4⟩
set_option maxRecDepth 100000 in
set_option maxHeartbeats 3200000 in
theorem rvalue_2 (d : Nat) (bs : List UInt8) (at_ : Nat) (c : UInt8) (R : Nat) (w : World) (hr : RR w R bs at_ false) (hlt : at_ < bs.length) (hc : bs[at_] = c) (hx : c.toNat = 2) (dep : Int) :
    Calls Try.prog 34 #[.pointer (some ⟨R, 0, none⟩), .int .i64 dep] w (RVal d bs at_ R w) := by
  have HDV : Hid (decV d (bs.drop at_) = decText (bs.drop (at_ + 1))) := by unfold Hid; rw [List.drop_eq_getElem_cons hlt, hc, decV_2 _ _ _ hx]
  have H0 := Lib.hid (rv0_of hr)
  have hRl := hr.lt
  have hnx := next_some R bs at_ false _ H0.out.rr hlt
  rw [hc, hx] at hnx
  have hne : ¬ w.heap.size = R := by omega
  have HNX := Lib.hid hnx
  clear hr hc hx hnx
  go_enter Try.func34, Try.ntmps34
  go_wp2_with fail
  refine (HNX.out).mono ?_
  rintro e w1 ⟨rfl, hr1, hg1⟩
  have h1 := H0.out.step hr1 hg1
  have H1 := Lib.hid h1
  clear h1 hr1 hg1 H0 HNX
  go_wp2_with fail
  refine (rnumber_any bs (at_ + 1) R w1 H1.out.rr).mono ?_
  rintro e w2 ⟨hg2, ⟨u, r, at', hd, rfl, hr2, hrest⟩ | ⟨hd, rfl, at', hr2⟩⟩
  · have h2 := H1.out.step hr2 hg2
    obtain ⟨x0, x1, x2, x3⟩ := h2.box.cells
    obtain ⟨f0, f1, f2, f3⟩ := h2.box.free
    obtain ⟨a1, cap1, y0, y1, y2, fy1, fy2, hal, hbl⟩ := h2.rr.cells
    have H2 := Lib.hid h2
    have hu := (decNum_lt hd).1
    have hrl : r.length = bs.length - at' := by rw [← hrest, List.length_drop]
    have kw1 : IntKind.i64.wrap ((bs.length : Int) - at') = bs.length - at' := IntWalk.i64_in _ (by omega)
    have kw2 : IntKind.u64.wrap ((bs.length : Int) - at') = bs.length - at' := by
      have := wrapU (bs.length - at') (by omega)
      rw [show ((bs.length - at' : Nat) : Int) = (bs.length : Int) - at' by omega] at this
      exact this
    by_cases hle : u ≤ r.length
    · have HDD := Lib.hid (decText_ok hd hle)
      have hdc : decide ((bs.length : Int) - at' < u) = false := by simp; omega
      have HRS := Lib.hid hrest
      have HLE := Lib.hid hle
      have HRL := Lib.hid hrl
      have hul : (u : Int) ≤ bs.length - at' := by omega
      clear h2 hr2 hg2 hd hrest hle hrl hu
      go_wp2_with fail
      go_quiet (fail)
      go_wp2
      have h3 := (H2.out.drewN nq).setAt (at' + u) (by omega)
      rw [show ((at' + u : Nat) : Int) = (at' : Int) + u by omega] at h3
      have H3 := Lib.hid h3
      clear x0 x1 x2 x3 f0 f1 f2 f3 y0 y1 y2 fy1 fy2
      generalize (w2.drewN nq).setCell ⟨R, 1, none⟩ (.int .i64 ((at' : Int) + u)) = W3 at *
      obtain ⟨x0, x1, x2, x3⟩ := h3.box.cells
      obtain ⟨f0, f1, f2, f3⟩ := h3.box.free
      obtain ⟨a1, cap1, y0, y1, y2, fy1, fy2, hal, hbl⟩ := h3.rr.cells
      rw [show ((at' + u : Nat) : Int) = (at' : Int) + u by omega] at y1
      obtain ⟨hby, hcap⟩ := h3.rr.bytes y0
      have hln : ((bs.drop at').take u).length = u := by rw [List.length_take, List.length_drop]; omega
      have hcv := ((hby.drop hcap at').take u).conv (cap1 - at')
      have h5 := H3.out.res (.int .i64 2) (.int .i64 0) (.string ⟨((bs.drop at').take u).toArray⟩) (.slice none 0 0)
      have h5y : (((((W3.setCell ⟨w.heap.size, 0, none⟩ (.int .i64 2)).setCell ⟨w.heap.size, 1, none⟩ (.int .i64 0)).setCell ⟨w.heap.size, 2, none⟩ (.string ⟨((bs.drop at').take u).toArray⟩)).setCell ⟨w.heap.size, 3, none⟩ (.slice none 0 0))).cell? ⟨R, 0, none⟩ = some (.slice a1 bs.length cap1) := by
        rw [World.cell?_of_block (w := W3) (a := ⟨R, 0, none⟩) (by show (World.setCell _ _ _).heap[R]? = _; rw [setCell_other _ _ _ _ _ (by omega), setCell_other _ _ _ _ _ (by omega), setCell_other _ _ _ _ _ (by omega), setCell_other _ _ _ _ _ (by omega)])]
        exact y0
      obtain ⟨hby5, _⟩ := h5.rr.bytes h5y
      have hcv5 := ((hby5.drop hcap at').take u).conv (cap1 - at')
      obtain ⟨_, _, _, h5y1, _⟩ := h5.rr.cells
      rw [show ((at' + u : Nat) : Int) = (at' : Int) + u by omega] at h5y1
      rw [hln] at hcv hcv5
      have hsl := slice_lh a1 bs.length cap1 at' u (by omega)
      have kwa : IntKind.i64.wrap (u : Int) = u := IntWalk.i64_in _ (by omega)
      have kwb : IntKind.i64.wrap ((at' : Int) + u - u) = at' := by rw [IntWalk.i64_in _ (by omega)]; omega
      have kwc : IntKind.i64.wrap (at' : Int) = at' := IntWalk.i64_in _ (by omega)
      have HLN := Lib.hid hln
      have H5 := Lib.hid h5
      have HK1 : Hid (W3.drew.cell? ⟨R, 0, none⟩ = some (.slice a1 bs.length cap1) ∧ W3.drew.cell? ⟨R, 1, none⟩ = some (.int .i64 ((at' : Int) + u)) ∧ (convert 27 9 (.slice (cutA a1 cap1 at') u (cap1 - at'))).run Try.prog W3.drew = .ok (.string ⟨((bs.drop at').take u).toArray⟩) W3.drew) := ⟨y0, y1, by have := ((hby.drop hcap at').take u).conv (w := W3.drew) (cap1 - at'); rw [HLN.out] at this; exact this⟩
      have HK2 : Hid (((((W3.setCell ⟨w.heap.size, 0, none⟩ (.int .i64 2)).setCell ⟨w.heap.size, 1, none⟩ (.int .i64 0)).setCell ⟨w.heap.size, 2, none⟩ (.string ⟨((bs.drop at').take u).toArray⟩)).setCell ⟨w.heap.size, 3, none⟩ (.slice none 0 0)).drew.cell? ⟨R, 0, none⟩ = some (.slice a1 bs.length cap1) ∧ ((((W3.setCell ⟨w.heap.size, 0, none⟩ (.int .i64 2)).setCell ⟨w.heap.size, 1, none⟩ (.int .i64 0)).setCell ⟨w.heap.size, 2, none⟩ (.string ⟨((bs.drop at').take u).toArray⟩)).setCell ⟨w.heap.size, 3, none⟩ (.slice none 0 0)).drew.cell? ⟨R, 1, none⟩ = some (.int .i64 ((at' : Int) + u)) ∧ (convert 27 9 (.slice (cutA a1 cap1 at') u (cap1 - at'))).run Try.prog ((((W3.setCell ⟨w.heap.size, 0, none⟩ (.int .i64 2)).setCell ⟨w.heap.size, 1, none⟩ (.int .i64 0)).setCell ⟨w.heap.size, 2, none⟩ (.string ⟨((bs.drop at').take u).toArray⟩)).setCell ⟨w.heap.size, 3, none⟩ (.slice none 0 0)).drew = .ok (.string ⟨((bs.drop at').take u).toArray⟩) ((((W3.setCell ⟨w.heap.size, 0, none⟩ (.int .i64 2)).setCell ⟨w.heap.size, 1, none⟩ (.int .i64 0)).setCell ⟨w.heap.size, 2, none⟩ (.string ⟨((bs.drop at').take u).toArray⟩)).setCell ⟨w.heap.size, 3, none⟩ (.slice none 0 0)).drew) := ⟨h5y, h5y1, by have := ((hby5.drop hcap at').take u).conv (w := ((((W3.setCell ⟨w.heap.size, 0, none⟩ (.int .i64 2)).setCell ⟨w.heap.size, 1, none⟩ (.int .i64 0)).setCell ⟨w.heap.size, 2, none⟩ (.string ⟨((bs.drop at').take u).toArray⟩)).setCell ⟨w.heap.size, 3, none⟩ (.slice none 0 0)).drew) (cap1 - at'); rw [HLN.out] at this; exact this⟩
      clear h3 hby hln h5 hby5 hcv5 h5y h5y1
      go_region_held3 (fun w' => w'.cell? ⟨R, 0, none⟩ = some (.slice a1 bs.length cap1) ∧ w'.cell? ⟨R, 1, none⟩ = some (.int .i64 ((at' : Int) + u)) ∧ (convert 27 9 (.slice (cutA a1 cap1 at') u (cap1 - at'))).run Try.prog w' = .ok (.string ⟨((bs.drop at').take u).toArray⟩) w')
        (first
          | exact HK1.out
          | exact HK2.out
          | go_keep)
        (fail)
      have h6 := H5.out
      clear H5 HK1 HK2 hcv
      generalize ((((W3.setCell ⟨w.heap.size, 0, none⟩ (.int .i64 2)).setCell ⟨w.heap.size, 1, none⟩ (.int .i64 0)).setCell ⟨w.heap.size, 2, none⟩ (.string ⟨((bs.drop at').take u).toArray⟩)).setCell ⟨w.heap.size, 3, none⟩ (.slice none 0 0)) = W5 at *
      go_wp2
      refine bodyPost_ret (v := .agg #[.int .i64 2, .int .i64 0, .string ⟨((bs.drop at').take u).toArray⟩, .slice none 0 0]) (by simp only [results, Try.results34]; simp [go_sem, h6.c0, h6.c1, h6.c2, h6.c3]) rfl ?_
      refine RVal.drew (h6.good (r := r.drop u) ?_ ?_ (by unfold i64R; omega) (by unfold i64R; omega) (by have := HLN.out; omega))
      · rw [HDV.out, HDD.out, HRS.out]
      · rw [← HRS.out, List.drop_drop]
    · have HDN : Hid (decV d (bs.drop at_) = none) := by unfold Hid; rw [HDV.out, decText_long hd hle]
      have hdc : decide ((bs.length : Int) - at' < u) = true := by simp; omega
      clear h2 hr2 hg2 hd hrest hle hrl hu
      go_wp2_with fail
      go_quiet (fail)
      go_wp2
      have h5 := (H2.out.drewN nq).toBad.res (.int .i64 0) (.int .i64 0) (.string ⟨#[]⟩) (.slice none 0 0)
      generalize ((((((w2.drewN nq).setCell ⟨R, 2, none⟩ (.bool true))).setCell ⟨w.heap.size, 0, none⟩ (.int .i64 0)).setCell ⟨w.heap.size, 1, none⟩ (.int .i64 0)).setCell ⟨w.heap.size, 2, none⟩ (.string ⟨#[]⟩)).setCell ⟨w.heap.size, 3, none⟩ (.slice none 0 0) = W5 at *
      exact bodyPost_ret (v := .agg #[.int .i64 0, .int .i64 0, .string ⟨#[]⟩, .slice none 0 0]) (by simp only [results, Try.results34]; simp [go_sem, h5.c0, h5.c1, h5.c2, h5.c3]) rfl (h5.bad HDN.out)
  · have h2 := H1.out.step hr2 hg2
    obtain ⟨x0, x1, x2, x3⟩ := h2.box.cells
    obtain ⟨f0, f1, f2, f3⟩ := h2.box.free
    obtain ⟨a1, cap1, y0, y1, y2, fy1, fy2, hal, hbl⟩ := h2.rr.cells
    have H2 := Lib.hid h2
    have HDN : Hid (decV d (bs.drop at_) = none) := by unfold Hid; rw [HDV.out, decText_no hd]
    clear h2 hr2 hg2 hd
    go_wp2_with fail
    go_quiet (fail)
    go_wp2
    have h5 := (H2.out.drewN nq).toBad.res (.int .i64 0) (.int .i64 0) (.string ⟨#[]⟩) (.slice none 0 0)
    generalize ((((((w2.drewN nq).setCell ⟨R, 2, none⟩ (.bool true))).setCell ⟨w.heap.size, 0, none⟩ (.int .i64 0)).setCell ⟨w.heap.size, 1, none⟩ (.int .i64 0)).setCell ⟨w.heap.size, 2, none⟩ (.string ⟨#[]⟩)).setCell ⟨w.heap.size, 3, none⟩ (.slice none 0 0) = W5 at *
    exact bodyPost_ret (v := .agg #[.int .i64 0, .int .i64 0, .string ⟨#[]⟩, .slice none 0 0]) (by simp only [results, Try.results34]; simp [go_sem, h5.c0, h5.c1, h5.c2, h5.c3]) rfl (h5.bad HDN.out)
end Go.Proofs.Ytedkoifbjmemdaa
