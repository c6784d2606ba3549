/- codec: numeral, unsigned, signed; frankingref01: numeral, unsigned -/
import Derived.Test.YtedkoifbjmemdaaOwn
import Derived.Test.YtedkoifbjmemdaaRef3
import Derived.Deep.AppendLies
namespace Go.Proofs.Ytedkoifbjmemdaa
open Go.RowKit
/-- bytes as they lie in cells -/
def byteV (b : UInt8) : Value := .int .u8 (b.toNat : Int)
theorem byteV_one (l : List UInt8) : ∀ u ∈ l.map byteV, u.oneCell' = true := by
  intro u hu
  obtain ⟨b, _, rfl⟩ := List.mem_map.1 hu
  rfl
theorem infoB : (Try.prog.info? 5).map (fun i => (i.zero, i.size, i.bytes)) = some (some (.int .u8 0), 1, 1) := by kernel_rfl

theorem or128 (u : Nat) : bits BinOp.or IntKind.u8 (IntKind.u8.wrap (u : Int)) 128 = ((UInt8.ofNat (u % 128 + 128)).toNat : Int) := by
  rw [IntKind.wrap_u8']
  have h := u8_or_nat (u % 256) 128 (by omega) (by omega)
  have e : ((u : Int) % 256) = ((u % 256 : Nat) : Int) := by omega
  rw [e]
  rw [show ((128 : Nat) : Int) = 128 from rfl] at h
  rw [h]
  have h2 : u % 256 ||| 128 = u % 128 + 128 := by
    have h3 : ∀ x < 256, x ||| 128 = x % 128 + 128 := by decide +kernel
    rw [h3 _ (by omega)]; omega
  rw [h2]
  simp
  omega
theorem num_step {f j : Nat} (hj : j < 128 ^ (f + 1)) (h : 128 ≤ j) : ∃ f', f = f' + 1 ∧ j / 128 < 128 ^ (f' + 1) ∧ numF (f + 1) j = UInt8.ofNat (j % 128 + 128) :: numF (f' + 1) (j / 128) := by
  cases f with
  | zero => simp at hj; omega
  | succ f =>
    refine ⟨f, rfl, ?_, ?_⟩
    · rw [Nat.pow_succ] at hj; exact Nat.div_lt_of_lt_mul (by omega)
    · rw [numF, if_neg (by omega)]
theorem num_last {f j : Nat} (h : j < 128) : numF (f + 1) j = [UInt8.ofNat j] := by rw [numF, if_pos h]
theorem or128' (u : Nat) : bits BinOp.or IntKind.u8 ((u : Int) % 256) 128 = ((UInt8.ofNat (u % 128 + 128)).toNat : Int) := by
  rw [← or128, IntKind.wrap_u8']
theorem lo128 (u : Nat) : IntKind.u8.wrap (u : Int) = ((UInt8.ofNat u).toNat : Int) := by
  rw [IntKind.wrap_u8']; simp
def NumPost (base : Nat) (bs : List UInt8) (v : Value) (u : Nat) (w : World) (e : Ending) (w' : World) : Prop :=
  ∃ v', e = .returned v' ∧ Grew base 5 1 w v v' (bs ++ num u).length ((bs ++ num u).map byteV) w'

set_option maxRecDepth 100000 in
set_option maxHeartbeats 1000000 in
theorem numeral_any (base : Nat) (bs : List UInt8) (v : Value) (u : Nat) (w : World) (hu : u < 18446744073709551616) (hbs : bs.length ≤ 1000000000) (hbase : base ≤ w.heap.size)
    (hown : w.ownsRow base 5 1 v bs.length (bs.map byteV)) : Calls Try.prog 38 #[v, .int .u64 u] w (NumPost base bs v u w) := by
  have HO := Lib.hid hown
  clear hown
  have HU := Lib.hid hu
  clear hu
  obtain ⟨i0, hi, hz0, hz1, hz2⟩ := info_parts infoB
  go_enter Try.func38, Try.ntmps38
  go_wp2
  go_loopw [0, 1] (fun v1 x wr => ∃ (f j : Nat) (ds : List UInt8), x = .int .u64 j ∧ ds.length + f ≤ 9 ∧ j < 128 ^ (f + 1) ∧ (j : Int) ≤ 18446744073709551615 ∧ Hid (num u = ds ++ numF (f + 1) j) ∧ Grew base 5 1 w v v1 (bs ++ ds).length ((bs ++ ds).map byteV) wr) (fun _ x _ => (intOf x).toNat)
  case atStart => exact ⟨9, u, [], rfl, by simp, by have := HU.out; simp; omega, by have := HU.out; omega, rfl, by simpa using Grew.refl HO.out⟩
  case round =>
    obtain ⟨f, j, ds, rfl, hf, hj, hj64, hnum, hg⟩ := hrel
    have HG := Lib.hid hg
    have HJ := Lib.hid hj
    have hsz := hg.by_.size
    clear hg hj
    have k3 : (bs ++ ds).length + 1 ≤ maxLen := maxLen_le (by simp; omega)
    have k4 : ((bs ++ ds).length + 1) * 1 ≤ 140737488355328 := by simp; omega
    have K3 := Lib.hid k3
    have K4 := Lib.hid k4
    clear k3 k4
    have hbw : base ≤ wr.heap.size := by omega
    by_cases hlt : (128 : Int) ≤ j
    · go_wp2_with (at_builtin; refine wpList_append_own2 rfl _ _ 27 rfl base 5 i0 (.int .u8 0) 1 1 Try.underlying27 hi hz0 hz1 hz2 rfl (by decide) _ _ _ rfl (HG.out.own.alloc _) ⟨wr.heap.size, 0, none⟩ 1 1 [_] rfl rfl (cell_one_new _ _ _) (one_int _ _) K3.out K4.out (le_alloc hbw _) ?_; intro v2 w2 hg2)
      go_roundw
      case rel =>
        obtain ⟨f', rfl, hj', hn⟩ := num_step HJ.out (by omega)
        refine ⟨f', j / 128, ds ++ [UInt8.ofNat (j % 128 + 128)], by go_num, by simp; omega, hj', by omega, ?_, ?_⟩
        · unfold Hid; rw [hnum.out, hn]; simp
        · have hg3 := HG.out.trans (hg2.behind ((Below.refl _ _).alloc (Nat.le_refl _) _))
          rw [or128'] at hg3
          have e1 : (bs ++ (ds ++ [UInt8.ofNat (j % 128 + 128)])).length = (bs ++ ds).length + 1 := by simp; omega
          have e2 : (bs ++ (ds ++ [UInt8.ofNat (j % 128 + 128)])).map byteV = (bs ++ ds).map byteV ++ [.int .u8 ((UInt8.ofNat (j % 128 + 128)).toNat : Int)] := by simp [byteV]
          rw [e1, e2]
          exact hg3
      case measure => simp [intOf]; omega
    · go_wp2_with (at_builtin; refine wpList_append_own2 rfl _ _ 27 rfl base 5 i0 (.int .u8 0) 1 1 Try.underlying27 hi hz0 hz1 hz2 rfl (by decide) _ _ _ rfl (HG.out.own.alloc _) ⟨wr.heap.size, 0, none⟩ 1 1 [_] rfl rfl (cell_one_new _ _ _) (one_int _ _) K3.out K4.out (le_alloc hbw _) ?_; intro v2 w2 hg2)
      go_ret
      refine ⟨v2, rfl, ?_⟩
      have hg3 := HG.out.trans (hg2.behind ((Below.refl _ _).alloc (Nat.le_refl _) _))
      have e0 : num u = ds ++ [UInt8.ofNat j] := by rw [hnum.out, num_last (by omega)]
      have e3 : (j : Int) = ((UInt8.ofNat j).toNat : Int) := by simp; omega
      have e1 : (bs ++ (ds ++ [UInt8.ofNat j])).length = (bs ++ ds).length + 1 := by simp; omega
      have e2 : (bs ++ (ds ++ [UInt8.ofNat j])).map byteV = (bs ++ ds).map byteV ++ [.int .u8 (j : Int)] := by rw [e3]; simp [byteV]
      rw [e0, e1, e2]
      exact hg3

/-- new bytes -/
def Fresh (xs : List UInt8) (w : World) (e : Ending) (w' : World) : Prop :=
  ∃ v', e = .returned v' ∧ w'.ownsRow w.heap.size 5 1 v' xs.length (xs.map byteV) ∧ Below w.heap.size w w'

theorem fresh_one (b : UInt8) (n : Int) (w : World) (h : n = (b.toNat : Int)) : Fresh [b] w (.returned (.slice (some ⟨w.heap.size, 0, none⟩) 1 1)) (w.alloc (.cells #[.int .u8 n] 5)) :=
  ⟨_, rfl, by rw [h]; exact World.ownsRow_lit w #[byteV b] 1 (Nat.le_refl _) (by unfold maxLen; omega) rfl, (Below.refl _ _).alloc (Nat.le_refl _) _⟩

set_option maxRecDepth 100000 in
set_option maxHeartbeats 1000000 in
theorem rnumeral_any (f : Nat) : ∀ (u : Nat) (w : World), f ≤ 9 → u < 128 ^ (f + 1) → (u : Int) ≤ 18446744073709551615 → Calls Try.prog 42 #[.int .u64 u] w (Fresh (numF (f + 1) u) w) := by
  obtain ⟨i0, hi, hz0, hz1, hz2⟩ := info_parts infoB
  induction f with
  | zero =>
    intro u w _ hu _
    have hlt : (u : Int) < 128 := by simp at hu; omega
    clear hu
    rw [num_last (by omega)]
    obtain ⟨b, hb⟩ : ∃ b, UInt8.ofNat u = b := ⟨_, rfl⟩
    rw [hb]
    have HB := Lib.hid hb
    clear hb
    go_enter Try.func42, Try.ntmps42
    go_wp2
    go_ret
    exact fresh_one b u w (by rw [← HB.out]; simp; omega)
  | succ f ih =>
    intro u w hf hu hu64
    have IH := Lib.hid ih
    clear ih
    by_cases hlt : (u : Int) < 128
    · rw [num_last (by omega)]
      clear hu hu64
      obtain ⟨b, hb⟩ : ∃ b, UInt8.ofNat u = b := ⟨_, rfl⟩
      rw [hb]
      have HB := Lib.hid hb
      clear hb
      go_enter Try.func42, Try.ntmps42
      go_wp2
      go_ret
      exact fresh_one b u w (by rw [← HB.out]; simp; omega)
    · obtain ⟨f', hf', hu', hn⟩ := num_step hu (by omega)
      obtain rfl : f = f' := by omega
      rw [hn]
      obtain ⟨b, hb⟩ : ∃ b, UInt8.ofNat (u % 128 + 128) = b := ⟨_, rfl⟩
      rw [hb]
      have HB := Lib.hid hb
      clear hn hu hf' hb
      have hpos := numF_pos f (u / 128)
      have hle := numF_len (f + 1) (u / 128)
      have hdiv : (u : Int) / 128 = ((u / 128 : Nat) : Int) := by omega
      have HDIV := Lib.hid hdiv
      have ic := fun w => IH.out (u / 128) w (by omega) hu' (by omega)
      generalize numF (f + 1) (u / 128) = xs at *
      have IC := Lib.hid ic
      clear ic hu' hdiv
      go_enter Try.func42, Try.ntmps42
      go_wp2_with fail
      rw [HDIV.out]
      refine (IC.out _).mono ?_
      rintro e w1 ⟨v1, rfl, hown1, hb1⟩
      obtain ⟨g, cap, rfl, hg1, hg2⟩ := hown1.form hpos
      have hown0 := World.ownsRow_lit (e := 5) (size := 1) (base := w.heap.size) w #[.int .u8 (u % 128 + 128)] 1 (Nat.le_refl _) (by unfold maxLen; omega) rfl
      have hown0' := hown0.kept (⟨hb1.os, hb1.tape, hb1.output, hb1.size, fun k hk _ => hb1.block k hk⟩ : World.grownBy _ w1 none) (.inr (by simp [Value.ownBlock]))
      have HO0 := Lib.hid hown0'
      have HO1 := Lib.hid hown1
      have hsz : w.heap.size + 1 ≤ w1.heap.size := by have := hb1.size; simpa using this
      have hbw : w.heap.size ≤ w1.heap.size := by omega
      have K3 := Lib.hid (maxLen_le (n := 1 + xs.length) (by omega))
      have K4 := Lib.hid (show (1 + xs.length) * 1 ≤ 140737488355328 by omega)
      clear hown0 hown0' hown1
      go_wp2_with (at_builtin; refine wpList_append_own2 rfl _ _ 27 rfl w.heap.size 5 i0 (.int .u8 0) 1 1 Try.underlying27 hi hz0 hz1 hz2 rfl (by decide) _ _ _ rfl HO0.out ⟨g, 0, none⟩ xs.length cap (xs.map byteV) rfl HO1.out.1 (HO1.out.cells (g := g) rfl) (byteV_one _) K3.out K4.out hbw ?_; intro v2 w2 hg2)
      go_ret
      refine ⟨v2, rfl, ?_, ?_⟩
      · have := hg2.own
        have e3 : (u : Int) % 128 + 128 = (b.toNat : Int) := by rw [← HB.out]; simp; omega
        rw [e3] at this
        simp only [List.length_cons, List.map_cons]
        rw [Nat.add_comm]
        exact this
      · exact ((Below.refl _ _).alloc (Nat.le_refl _) _).trans ((hb1.mono (by simp)).trans (hg2.below (by omega) (fun g hg => by cases hg; exact Nat.le_refl _)))
theorem rnumeral (u : Nat) (w : World) (h : u < 18446744073709551616) : Calls Try.prog 42 #[.int .u64 u] w (Fresh (num u) w) :=
  rnumeral_any 9 u w (by omega) (by simp; omega) (by omega)
end Go.Proofs.Ytedkoifbjmemdaa
