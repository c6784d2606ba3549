/- frankingref01: the reader's values -/
import Derived.Test.YtedkoifbjmemdaaRRNum
namespace Go.Proofs.Ytedkoifbjmemdaa
set_option linter.unusedSimpArgs false
set_option linter.unusedVariables false
open Go.RowKit
attribute [local go_sem ↓] Go.wp_at_zero Go.wp_at_succ
theorem size27 (w : World) : (sizeOf (Try.prog.elem 27)).run Try.prog w = .ok 1 w := by kernel_rfl
theorem elem27 : Try.prog.underlying 27 = some (.slice (Try.prog.elem 27)) := by kernel_rfl
theorem slice_lh (a : Option Addr) (len cap lo u : Nat) (h : lo + u ≤ cap) (w : World) :
    (Instr.slice 27 (.slice a len cap) (some (.int .i64 (lo : Int))) (some (.int .i64 ((lo : Int) + u))) none).run Try.prog w = .ok (.slice (cutA a cap lo) u (cap - lo)) w := by
  rw [run_slice_lh (P := Try.prog) w 27 a len cap elem27 .i64 .i64 (lo : Int) ((lo : Int) + u) (by omega) (by omega) (by omega), size27 w]
  have e : ((lo : Int) + u).toNat = lo + u := by omega
  have e2 : lo + u - lo = u := by omega
  simp only [Result.andThen_ok, sliced, e, Int.toNat_natCast, cutA]
  simp [e2]
theorem RR.bytes {w : World} {R : Nat} {bs : List UInt8} {at_ : Nat} {bad : Bool} (h : RR w R bs at_ bad) {a : Option Addr} {len cap : Nat} (hc : w.cell? ⟨R, 0, none⟩ = some (.slice a len cap)) : Bytes w a bs ∧ bs.length ≤ cap := by
  obtain ⟨a', cap', h⟩ := h
  rw [h.cells.1] at hc
  injection hc with hc
  injection hc with e1 e2 e3
  subst e1 e3
  exact ⟨h.2.2.2.1, h.2.1⟩
/-- what the reference's Value does -/
def RVal (d : Nat) (bs : List UInt8) (at_ : Nat) (R : Nat) (w : World) (e : Ending) (w' : World) : Prop :=
  w.grownBy w' (some R) ∧ ((∃ v r c at', decV d (bs.drop at_) = some (v, r) ∧ e = .returned c ∧ RepF (fun b => w.heap.size ≤ b ∧ b < w'.heap.size) w' v c ∧ RR w' R bs at' false ∧ bs.drop at' = r) ∨
    (decV d (bs.drop at_) = none ∧ ∃ k n s a len cap at', e = .returned (.agg #[.int .i64 k, .int .i64 n, .string s, .slice a len cap]) ∧ RR w' R bs at' true))
/-- ahead of the first byte: the result's cell -/
structure RV0 (w : World) (R : Nat) (bs : List UInt8) (at_ : Nat) (bad : Bool) (W : World) : Prop where
  rr : RR W R bs at_ bad
  box : Box4 W w.heap.size (.int .i64 0) (.int .i64 0) (.string ⟨#[]⟩) (.slice none 0 0)
  by_ : w.grownBy W (some R)
  rlt : R < w.heap.size
theorem rv0_of {w : World} {R : Nat} {bs : List UInt8} {at_ : Nat} {bad : Bool} (h : RR w R bs at_ bad) : RV0 w R bs at_ bad (w.alloc (.cells #[.int .i64 0, .int .i64 0, .string ⟨#[]⟩, .slice none 0 0] 24)) :=
  ⟨h.alloc _, Box4.new w _ _ _ _, World.grownBy_alloc _ _ _, h.lt⟩
theorem RV0.step {w W W' : World} {R : Nat} {bs : List UInt8} {at_ at' : Nat} {bad bad' : Bool} (h : RV0 w R bs at_ bad W) (hr : RR W' R bs at' bad') (hg : W.grownBy W' (some R)) : RV0 w R bs at' bad' W' :=
  ⟨hr, h.box.kept hg (by have := h.rlt; simp; omega), grownBy_trans1 h.by_ hg, h.rlt⟩
theorem Box4.all {w : World} {X : Nat} {c0 c1 c2 c3 : Value} (h : Box4 w X c0 c1 c2 c3) (d0 d1 d2 d3 : Value) : Box4 ((((w.setCell ⟨X, 0, none⟩ d0).setCell ⟨X, 1, none⟩ d1).setCell ⟨X, 2, none⟩ d2).setCell ⟨X, 3, none⟩ d3) X d0 d1 d2 d3 := (((h.set0 _).set1 _).set2 _).set3 _
theorem RR.all {w : World} {R : Nat} {bs : List UInt8} {at_ : Nat} {bad : Bool} (h : RR w R bs at_ bad) {X : Nat} (hX : R < X) (d0 d1 d2 d3 : Value) : RR ((((w.setCell ⟨X, 0, none⟩ d0).setCell ⟨X, 1, none⟩ d1).setCell ⟨X, 2, none⟩ d2).setCell ⟨X, 3, none⟩ d3) R bs at_ bad := (((h.set _ _ _ hX).set _ _ _ hX).set _ _ _ hX).set _ _ _ hX
theorem grownBy_all {a w : World} {R : Nat} (h : a.grownBy w (some R)) {X : Nat} (hX : a.heap.size ≤ X) (d0 d1 d2 d3 : Value) : a.grownBy ((((w.setCell ⟨X, 0, none⟩ d0).setCell ⟨X, 1, none⟩ d1).setCell ⟨X, 2, none⟩ d2).setCell ⟨X, 3, none⟩ d3) (some R) :=
  grownBy_set (grownBy_set (grownBy_set (grownBy_set h _ _ _ hX) _ _ _ hX) _ _ _ hX) _ _ _ hX

theorem RV0.toBad {w W : World} {R : Nat} {bs : List UInt8} {at_ : Nat} {bad : Bool} (h : RV0 w R bs at_ bad W) : RV0 w R bs at_ true (W.setCell ⟨R, 2, none⟩ (.bool true)) :=
  h.step (h.rr.toBad true) (grownBy_setR (grownBy_refl _ _) _ _)
theorem RV0.drewN {w W : World} {R : Nat} {bs : List UInt8} {at_ : Nat} {bad : Bool} (h : RV0 w R bs at_ bad W) (n : Nat) : RV0 w R bs at_ bad (W.drewN n) := ⟨h.rr, h.box, grownBy_drewN h.by_ n, h.rlt⟩
theorem RV0.setAt {w W : World} {R : Nat} {bs : List UInt8} {at_ : Nat} {bad : Bool} (h : RV0 w R bs at_ bad W) (at' : Nat) (ha : at' ≤ bs.length) : RV0 w R bs at' bad (W.setCell ⟨R, 1, none⟩ (.int .i64 at')) := by
  obtain ⟨a, cap, hr⟩ := h.rr
  exact h.step ⟨a, cap, hr.setAt at' ha⟩ (grownBy_setR (grownBy_refl _ _) _ _)
/-- the result is stored -/
structure RV4 (w : World) (R : Nat) (bs : List UInt8) (at_ : Nat) (bad : Bool) (d0 d1 d2 d3 : Value) (W : World) : Prop where
  rr : RR W R bs at_ bad
  c0 : W.cell? ⟨w.heap.size, 0, none⟩ = some d0
  c1 : W.cell? ⟨w.heap.size, 1, none⟩ = some d1
  c2 : W.cell? ⟨w.heap.size, 2, none⟩ = some d2
  c3 : W.cell? ⟨w.heap.size, 3, none⟩ = some d3
  by_ : w.grownBy W (some R)
theorem RV0.res {w W : World} {R : Nat} {bs : List UInt8} {at_ : Nat} {bad : Bool} (h : RV0 w R bs at_ bad W) (d0 d1 d2 d3 : Value) :
    RV4 w R bs at_ bad d0 d1 d2 d3 ((((W.setCell ⟨w.heap.size, 0, none⟩ d0).setCell ⟨w.heap.size, 1, none⟩ d1).setCell ⟨w.heap.size, 2, none⟩ d2).setCell ⟨w.heap.size, 3, none⟩ d3) := by
  obtain ⟨z0, z1, z2, z3⟩ := (h.box.all d0 d1 d2 d3).cells
  exact ⟨h.rr.all h.rlt _ _ _ _, z0, z1, z2, z3, grownBy_all h.by_ (Nat.le_refl _) _ _ _ _⟩
theorem RV4.bad {d : Nat} {w W : World} {R : Nat} {bs : List UInt8} {at0 at_ : Nat} {k n : Int} {s : ByteArray} {a : Option Addr} {len cap : Nat} (h : RV4 w R bs at_ true (.int .i64 k) (.int .i64 n) (.string s) (.slice a len cap) W) (hd : decV d (bs.drop at0) = none) :
    RVal d bs at0 R w (.returned (.agg #[.int .i64 k, .int .i64 n, .string s, .slice a len cap])) W := ⟨h.by_, .inr ⟨hd, k, n, s, a, len, cap, at_, rfl, h.rr⟩⟩
theorem RV4.good {d : Nat} {w W : World} {R : Nat} {bs r : List UInt8} {at0 at_ : Nat} {k n : Int} {s : List UInt8} (h : RV4 w R bs at_ false (.int .i64 k) (.int .i64 n) (.string ⟨s.toArray⟩) (.slice none 0 0) W) (hd : decV d (bs.drop at0) = some (.mk k n s [], r)) (hr : bs.drop at_ = r) (hk : i64R k) (hn : i64R n) (hs : s.length ≤ 140737488351232) :
    RVal d bs at0 R w (.returned (.agg #[.int .i64 k, .int .i64 n, .string ⟨s.toArray⟩, .slice none 0 0])) W := ⟨h.by_, .inl ⟨_, r, _, at_, hd, rfl, repF_leaf hk hn hs, h.rr, hr⟩⟩

set_option maxRecDepth 100000 in
set_option maxHeartbeats 3200000 in
theorem rvalue_end (d : Nat) (bs : List UInt8) (R : Nat) (w : World) (hr : RR w R bs bs.length false) (dep : Int) :
    Calls Try.prog 34 #[.pointer (some ⟨R, 0, none⟩), .int .i64 dep] w (RVal d bs bs.length R w) := by
  have HDN : Hid (decV d (bs.drop bs.length) = none) := by unfold Hid; rw [List.drop_length, decV_nil]
  have H0 := Lib.hid (rv0_of hr)
  have hRl := hr.lt
  clear hr
  go_enter Try.func34, Try.ntmps34
  go_wp2_with fail
  refine (next_end R bs false _ H0.out.rr).mono ?_
  rintro e w1 ⟨rfl, hr1, hg1⟩
  have h1 := H0.out.step hr1 hg1
  obtain ⟨a1, cap1, y0, y1, y2, fy1, fy2, _, _⟩ := h1.rr.cells
  obtain ⟨x0, x1, x2, x3⟩ := h1.box.cells
  obtain ⟨f0, f1, f2, f3⟩ := h1.box.free
  have hne : ¬ w.heap.size = R := by omega
  have H1 := Lib.hid h1
  clear h1 hr1 hg1
  go_wp2
  have h5 := H1.out.toBad.res (.int .i64 0) (.int .i64 0) (.string ⟨#[]⟩) (.slice none 0 0)
  generalize ((((w1.setCell ⟨R, 2, none⟩ (.bool true)).setCell ⟨w.heap.size, 0, none⟩ (.int .i64 0)).setCell ⟨w.heap.size, 1, none⟩ (.int .i64 0)).setCell ⟨w.heap.size, 2, none⟩ (.string ⟨#[]⟩)).setCell ⟨w.heap.size, 3, none⟩ (.slice none 0 0) = W5 at *
  exact bodyPost_ret (v := .agg #[.int .i64 0, .int .i64 0, .string ⟨#[]⟩, .slice none 0 0]) (by simp only [results, Try.results34]; simp [go_sem, h5.c0, h5.c1, h5.c2, h5.c3]) rfl (h5.bad HDN.out)

set_option maxRecDepth 100000 in
set_option maxHeartbeats 3200000 in
theorem rvalue_o (d : Nat) (bs : List UInt8) (at_ : Nat) (c : UInt8) (r : List UInt8) (R : Nat) (w : World) (hr : RR w R bs at_ false) (hlt : at_ < bs.length) (hc : bs[at_] = c) (h1 : ¬ c.toNat = 1) (h2 : ¬ c.toNat = 2) (h3 : ¬ c.toNat = 3) (dep : Int) :
    Calls Try.prog 34 #[.pointer (some ⟨R, 0, none⟩), .int .i64 dep] w (RVal d bs at_ R w) := by
  have HDN : Hid (decV d (bs.drop at_) = none) := by unfold Hid; rw [List.drop_eq_getElem_cons hlt, hc, decV_o _ _ _ h1 h2 h3]
  have H0 := Lib.hid (rv0_of hr)
  have hRl := hr.lt
  have hnx := next_some R bs at_ false _ H0.out.rr hlt
  rw [hc] at hnx
  have hxb := c.toNat_lt
  generalize c.toNat = x at *
  have g1 : ((x : Int) == 1) = false := by simp; omega
  have g2 : ((x : Int) == 2) = false := by simp; omega
  have g3 : ((x : Int) == 3) = false := by simp; omega
  have hx256 : (x : Int) < 256 := by omega
  have HNX := Lib.hid hnx
  clear hr hc h1 h2 h3 hnx hxb
  go_enter Try.func34, Try.ntmps34
  go_wp2_with fail
  refine (HNX.out).mono ?_
  rintro e w1 ⟨rfl, hr1, hg1⟩
  have h1 := H0.out.step hr1 hg1
  obtain ⟨a1, cap1, y0, y1, y2, fy1, fy2, _, _⟩ := h1.rr.cells
  obtain ⟨x0, x1, x2, x3⟩ := h1.box.cells
  obtain ⟨f0, f1, f2, f3⟩ := h1.box.free
  have hne : ¬ w.heap.size = R := by omega
  have H1 := Lib.hid h1
  clear h1 hr1 hg1
  go_wp2
  have h5 := H1.out.toBad.res (.int .i64 0) (.int .i64 0) (.string ⟨#[]⟩) (.slice none 0 0)
  generalize ((((w1.setCell ⟨R, 2, none⟩ (.bool true)).setCell ⟨w.heap.size, 0, none⟩ (.int .i64 0)).setCell ⟨w.heap.size, 1, none⟩ (.int .i64 0)).setCell ⟨w.heap.size, 2, none⟩ (.string ⟨#[]⟩)).setCell ⟨w.heap.size, 3, none⟩ (.slice none 0 0) = W5 at *
  exact bodyPost_ret (v := .agg #[.int .i64 0, .int .i64 0, .string ⟨#[]⟩, .slice none 0 0]) (by simp only [results, Try.results34]; simp [go_sem, h5.c0, h5.c1, h5.c2, h5.c3]) rfl (h5.bad HDN.out)

set_option maxRecDepth 100000 in
set_option maxHeartbeats 3200000 in
theorem rvalue_1 (d : Nat) (bs : List UInt8) (at_ : Nat) (c : UInt8) (R : Nat) (w : World) (hr : RR w R bs at_ false) (hlt : at_ < bs.length) (hc : bs[at_] = c) (hx : c.toNat = 1) (dep : Int) :
    Calls Try.prog 34 #[.pointer (some ⟨R, 0, none⟩), .int .i64 dep] w (RVal d bs at_ R w) := by
  have HDV : Hid (decV d (bs.drop at_) = decInt (bs.drop (at_ + 1))) := by unfold Hid; rw [List.drop_eq_getElem_cons hlt, hc, decV_1 _ _ _ hx]
  have H0 := Lib.hid (rv0_of hr)
  have hRl := hr.lt
  have hnx := next_some R bs at_ false _ H0.out.rr hlt
  rw [hc, hx] at hnx
  have hne : ¬ w.heap.size = R := by omega
  have HNX := Lib.hid hnx
  clear hr hc hx hnx
  go_enter Try.func34, Try.ntmps34
  go_wp2_with fail
  refine (HNX.out).mono ?_
  rintro e w1 ⟨rfl, hr1, hg1⟩
  have h1 := H0.out.step hr1 hg1
  have H1 := Lib.hid h1
  clear h1 hr1 hg1 H0 HNX
  go_wp2_with fail
  refine (rnumber_any bs (at_ + 1) R w1 H1.out.rr).mono ?_
  rintro e w2 ⟨hg2, ⟨u, r, at', hd, rfl, hr2, hrest⟩ | ⟨hd, rfl, at', hr2⟩⟩
  · have h2 := H1.out.step hr2 hg2
    obtain ⟨x0, x1, x2, x3⟩ := h2.box.cells
    obtain ⟨f0, f1, f2, f3⟩ := h2.box.free
    have H2 := Lib.hid h2
    have hu := (decNum_lt hd).1
    have HDD : Hid (decV d (bs.drop at_) = some (.mk 1 (unzz u) [] [], r)) := by unfold Hid; rw [HDV.out]; unfold decInt; rw [hd]
    have HUR := Lib.hid (unzz_R hu)
    have HRS := Lib.hid hrest
    have hu2 : (u : Int) / 2 ≤ 9223372036854775807 := by omega
    clear h2 hr2 hg2 hd hrest
    by_cases hodd : u % 2 = 1
    · have HZ : Hid (unzz u = -((u : Int) / 2) - 1) := by unfold Hid unzz; rw [if_neg (by omega)]; omega
      have go1 : ((u : Int) % 2 == 1) = true := by simp; omega
      have hu3 : (u : Int) ≤ 18446744073709551615 := by omega
      clear hodd hu
      go_wp2
      have h5 := H2.out.res (.int .i64 1) (.int .i64 (-((u : Int) / 2) - 1)) (.string ⟨#[]⟩) (.slice none 0 0)
      generalize (((w2.setCell ⟨w.heap.size, 0, none⟩ (.int .i64 1)).setCell ⟨w.heap.size, 1, none⟩ (.int .i64 (-((u : Int) / 2) - 1))).setCell ⟨w.heap.size, 2, none⟩ (.string ⟨#[]⟩)).setCell ⟨w.heap.size, 3, none⟩ (.slice none 0 0) = W5 at *
      exact bodyPost_ret (v := .agg #[.int .i64 1, .int .i64 (-((u : Int) / 2) - 1), .string ⟨#[]⟩, .slice none 0 0]) (by simp only [results, Try.results34]; simp [go_sem, h5.c0, h5.c1, h5.c2, h5.c3]) rfl (h5.good (s := []) (by rw [HDD.out, HZ.out]) HRS.out (by unfold i64R; omega) (by have := HUR.out; rw [HZ.out] at this; exact this) (by simp))
    · have HZ : Hid (unzz u = (u : Int) / 2) := by unfold Hid unzz; rw [if_pos (by omega)]; omega
      have go1 : ((u : Int) % 2 == 1) = false := by simp; omega
      have hu3 : (u : Int) ≤ 18446744073709551615 := by omega
      clear hodd hu
      go_wp2
      have h5 := H2.out.res (.int .i64 1) (.int .i64 ((u : Int) / 2)) (.string ⟨#[]⟩) (.slice none 0 0)
      generalize (((w2.setCell ⟨w.heap.size, 0, none⟩ (.int .i64 1)).setCell ⟨w.heap.size, 1, none⟩ (.int .i64 ((u : Int) / 2))).setCell ⟨w.heap.size, 2, none⟩ (.string ⟨#[]⟩)).setCell ⟨w.heap.size, 3, none⟩ (.slice none 0 0) = W5 at *
      exact bodyPost_ret (v := .agg #[.int .i64 1, .int .i64 ((u : Int) / 2), .string ⟨#[]⟩, .slice none 0 0]) (by simp only [results, Try.results34]; simp [go_sem, h5.c0, h5.c1, h5.c2, h5.c3]) rfl (h5.good (s := []) (by rw [HDD.out, HZ.out]) HRS.out (by unfold i64R; omega) (by have := HUR.out; rw [HZ.out] at this; exact this) (by simp))
  · have h2 := H1.out.step hr2 hg2
    obtain ⟨x0, x1, x2, x3⟩ := h2.box.cells
    obtain ⟨f0, f1, f2, f3⟩ := h2.box.free
    have H2 := Lib.hid h2
    have HDN : Hid (decV d (bs.drop at_) = none) := by unfold Hid; rw [HDV.out]; unfold decInt; rw [hd]
    clear h2 hr2 hg2 hd
    go_wp2
    have h5 := H2.out.res (.int .i64 1) (.int .i64 0) (.string ⟨#[]⟩) (.slice none 0 0)
    generalize (((w2.setCell ⟨w.heap.size, 0, none⟩ (.int .i64 1)).setCell ⟨w.heap.size, 1, none⟩ (.int .i64 0)).setCell ⟨w.heap.size, 2, none⟩ (.string ⟨#[]⟩)).setCell ⟨w.heap.size, 3, none⟩ (.slice none 0 0) = W5 at *
    exact bodyPost_ret (v := .agg #[.int .i64 1, .int .i64 0, .string ⟨#[]⟩, .slice none 0 0]) (by simp only [results, Try.results34]; simp [go_sem, h5.c0, h5.c1, h5.c2, h5.c3]) rfl (h5.bad HDN.out)


theorem decText_no {r : List UInt8} (h : decNum r = none) : decText r = none := by unfold decText; rw [h]
theorem decText_long {r r' : List UInt8} {n : Nat} (h : decNum r = some (n, r')) (hn : ¬ n ≤ r'.length) : decText r = none := by unfold decText; rw [h]; simp [hn]
theorem decText_ok {r r' : List UInt8} {n : Nat} (h : decNum r = some (n, r')) (hn : n ≤ r'.length) : decText r = some (.mk 2 0 (r'.take n) [], r'.drop n) := by unfold decText; rw [h]; simp [hn]
end Go.Proofs.Ytedkoifbjmemdaa
