/- frankingref01: encode -/
import Derived.Test.YtedkoifbjmemdaaWrite3
namespace Go.Proofs.Ytedkoifbjmemdaa
set_option linter.unusedSimpArgs false
set_option linter.unusedVariables false
open Go.RowKit
attribute [local go_sem ↓] Go.wp_at_zero Go.wp_at_succ
theorem ownsRow_weak {w : World} {base base' : Nat} {e : TypeId} {size : Nat} {v : Value} {n : Nat} {xs : List Value} (h : w.ownsRow base e size v n xs) (hb : base' ≤ base) : w.ownsRow base' e size v n xs :=
  ⟨h.1, h.2.imp id fun ⟨g, cap, cur, a1, a2, a3⟩ => ⟨g, cap, cur, a1, Nat.le_trans hb a2, a3⟩⟩
theorem ownsRow_below {w w' : World} {base : Nat} {e : TypeId} {size : Nat} {v : Value} {n : Nat} {xs : List Value} (h : w.ownsRow base e size v n xs) (hb : Below w.heap.size w w') : w'.ownsRow base e size v n xs :=
  h.kept (⟨hb.os, hb.tape, hb.output, hb.size, fun k hk _ => hb.block k hk⟩ : World.grownBy w w' none) (by cases hv : v.ownBlock <;> simp)
theorem grown_none {w w' : World} (hb : Below w.heap.size w w') : World.grownBy w w' none := ⟨hb.os, hb.tape, hb.output, hb.size, fun k hk _ => hb.block k hk⟩
theorem own_lit1 (w : World) (b : UInt8) (n : Int) (h : n = (b.toNat : Int)) (base : Nat) (hb : base ≤ w.heap.size) : (w.alloc (.cells #[.int .u8 n] 5)).ownsRow base 5 1 (.slice (some ⟨w.heap.size, 0, none⟩) 1 1) [b].length ([b].map byteV) := by
  subst h; exact World.ownsRow_lit w #[byteV b] 1 hb (by unfold maxLen; omega) rfl

set_option maxRecDepth 100000 in
set_option maxHeartbeats 1000000 in
theorem rencode_1 (n : Int) (s : List UInt8) (l : List V) (a : Option Addr) (cap : Nat) (w : World) (hn : i64R n) :
    Calls Try.prog 27 #[.agg #[.int .i64 1, .int .i64 n, .string ⟨s.toArray⟩, .slice a l.length cap]] w (Fresh (V.mk 1 n s l).enc w) := by
  have e0 : (V.mk 1 n s l).enc = [1] ++ num (zz n) := by simp [V.enc]
  rw [e0]
  have hu := fun w => runsigned_any n w hn
  have hm := fun w => rnumeral (zz n) w (zz_lt hn)
  have hpos := num_pos (zz n)
  have hle := num_le (zz n)
  generalize num (zz n) = xs at *
  have HU := Lib.hid hu
  have HM := Lib.hid hm
  clear hu hm e0 hn
  go_enter Try.func27, Try.ntmps27
  go_wp2_with fail
  refine (HU.out _).mono ?_
  rintro e w' ⟨rfl, rfl⟩
  go_wp2_with fail
  refine (HM.out _).mono ?_
  rintro e w1 ⟨v1, rfl, hown1, hb1⟩
  have hown0 := ownsRow_below (own_lit1 (w.alloc (Obj.cells #[.int .i64 1, .int .i64 n, .string ⟨s.toArray⟩, .slice a l.length cap] 24)) 1 1 rfl w.heap.size (by simp)) hb1
  have HO0 := Lib.hid hown0
  have HO1 := Lib.hid hown1
  have K3 := Lib.hid (maxLen_le (n := [(1 : UInt8)].length + xs.length) (by simp; omega))
  have K4 := Lib.hid (show ([(1 : UInt8)].length + xs.length) * 1 ≤ 140737488355328 by simp; omega)
  have hsz : w.heap.size ≤ w1.heap.size := by have := hb1.size; simp at this; omega
  have hbb : Below w.heap.size w w1 := (((Below.refl _ _).alloc (Nat.le_refl _) _).alloc (by simp) _).trans (hb1.mono (by simp; omega))
  clear hown0 hown1 hb1
  simp only [size_a1] at HO0
  go_wp2_with (at_builtin; refine wpList_app rfl _ _ rfl elemB w.heap.size _ _ _ rfl HO0.out _ _ _ rfl (Source.own HO1.out (byteV_one _)) (.inl rfl) K3.out K4.out hsz ?_; intro v2 w2 hg2)
  go_ret
  have h3 := grew_more (bs := [1]) rfl rfl rfl hg2
  exact ⟨v2, rfl, h3.own, hbb.trans (h3.below hsz (fun g hg => (HO0.out.lt g hg).1))⟩

theorem own2_of {w w1 : World} {o : Obj} {b : UInt8} {n : Int} (hn : n = (b.toNat : Int)) (hb : Below ((w.alloc o).alloc (.cells #[.int .u8 n] 5)).drew.heap.size ((w.alloc o).alloc (.cells #[.int .u8 n] 5)).drew w1) :
    w1.ownsRow (w.heap.size + 1) 5 1 (.slice (some ⟨w.heap.size + 1, 0, none⟩) 1 1) [b].length ([b].map byteV) := by
  have h := own_lit1 (w.alloc o) b n hn (w.heap.size + 1) (by simp)
  rw [size_a1] at h
  exact ownsRow_below h.drew hb
theorem sz_of {w w1 : World} {o o' : Obj} (hb : Below ((w.alloc o).alloc o').drew.heap.size ((w.alloc o).alloc o').drew w1) : w.heap.size + 1 ≤ w1.heap.size := by
  have := hb.size; rw [size_a2d] at this; omega

/-- what is known ahead of the append: the literal was laid first, or the numeral was -/
theorem facts1 {w w1 : World} {o : Obj} {b : UInt8} {n : Int} {v1 : Value} {xs : List UInt8} {B : Nat} (hn : n = (b.toNat : Int)) (hb : Below ((w.alloc o).alloc (.cells #[.int .u8 n] 5)).drew.heap.size ((w.alloc o).alloc (.cells #[.int .u8 n] 5)).drew w1)
    (ho : w1.ownsRow B 5 1 v1 xs.length (xs.map byteV)) :
    Hid (w1.ownsRow (w.heap.size + 1) 5 1 (.slice (some ⟨w.heap.size + 1, 0, none⟩) 1 1) [b].length ([b].map byteV)) ∧ Hid (Source Try.prog 27 27 1 w1 v1 xs.length (xs.map byteV)) ∧ w.heap.size + 1 ≤ w1.heap.size ∧ Below w.heap.size w w1 :=
  ⟨own2_of hn hb, Source.own ho (byteV_one _), sz_of hb, ((((Below.refl _ _).alloc (Nat.le_refl _) _).alloc (by simp) _).drew).trans (hb.mono (by rw [size_a2d]; omega))⟩
theorem facts2 {w w1 : World} {o : Obj} {b : UInt8} {n : Int} {v1 : Value} {xs : List UInt8} {B : Nat} (hn : n = (b.toNat : Int)) (hb : Below (w.alloc o).drew.heap.size (w.alloc o).drew w1)
    (ho : w1.ownsRow B 5 1 v1 xs.length (xs.map byteV)) :
    Hid ((w1.alloc (.cells #[.int .u8 n] 5)).ownsRow (w.heap.size + 1) 5 1 (.slice (some ⟨w1.heap.size, 0, none⟩) 1 1) [b].length ([b].map byteV)) ∧ Hid (Source Try.prog 27 27 1 (w1.alloc (.cells #[.int .u8 n] 5)) v1 xs.length (xs.map byteV)) ∧ w.heap.size + 1 ≤ (w1.alloc (.cells #[.int .u8 n] 5)).heap.size ∧ Below w.heap.size w (w1.alloc (.cells #[.int .u8 n] 5)) := by
  have hs := hb.size
  rw [size_a1d] at hs
  refine ⟨own_lit1 w1 b n hn _ hs, Source.own (ho.alloc _) (byteV_one _), le_alloc hs _, ?_⟩
  exact ((((Below.refl _ _).alloc (Nat.le_refl _) _).drew).trans (hb.mono (by rw [size_a1d]; omega))).alloc (by omega) _

set_option maxRecDepth 100000 in
set_option maxHeartbeats 3200000 in
theorem rencode_2 (n : Int) (s : List UInt8) (l : List V) (a : Option Addr) (cap : Nat) (w : World) (hs : s.length ≤ 1000000) :
    Calls Try.prog 27 #[.agg #[.int .i64 2, .int .i64 n, .string ⟨s.toArray⟩, .slice a l.length cap]] w (Fresh (V.mk 2 n s l).enc w) := by
  have e0 : (V.mk 2 n s l).enc = [2] ++ num s.length ++ s := by simp [V.enc]
  rw [e0]
  have hm := fun w => rnumeral s.length w (by omega)
  have hpos := num_pos s.length
  have hle := num_le s.length
  generalize num s.length = xs at *
  have HM := Lib.hid hm
  have K3 := Lib.hid (maxLen_le (n := [(2 : UInt8)].length + xs.length) (by simp; omega))
  have K4 := Lib.hid (show ([(2 : UInt8)].length + xs.length) * 1 ≤ 140737488355328 by simp; omega)
  have K5 := Lib.hid (maxLen_le (n := ([2] ++ xs).length + (⟨s.toArray⟩ : ByteArray).size) (by simp [ByteArray.size]; omega))
  have K6 := Lib.hid (show (([2] ++ xs).length + (⟨s.toArray⟩ : ByteArray).size) * 1 ≤ 140737488355328 by simp [ByteArray.size]; omega)
  have kw : IntKind.u64.wrap (s.length : Int) = s.length := by simp [IntKind.wrap, IntKind.bits, IntKind.signed]; omega
  clear hm e0
  go_enter Try.func27, Try.ntmps27
  go_wp2_with fail
  go_region_held3 (fun w' => w'.cell? ⟨w.heap.size, 2, none⟩ = some (.string ⟨s.toArray⟩))
    (first
      | go_keep
      | exact below_cell hb1 ‹_›
      | exact hg2.cell ‹_› (fun e => by have := (HO0.out.lt _ e).1; have h' : w.heap.size + 1 ≤ w.heap.size := this; omega)
      | exact hg3.cell ‹_› (fun e => by have := (hg2.own.lt _ e).1; have h' : w.heap.size + 1 ≤ w.heap.size := this; omega))
    (first
      | (go_at_call 42; ((with_reducible refine (HM.out _).mono ?_)); rintro e w1 ⟨v1, rfl, hown1, hb1⟩; first | (obtain ⟨HO0, HS, hszW, hbW⟩ := facts1 (b := 2) rfl hb1 hown1; clear hown1) | (obtain ⟨HO0, HS, hszW, hbW⟩ := facts2 (b := 2) (n := 2) rfl hb1 hown1; clear hown1))
      | (refine step_app (by rfl) _ _ (by rfl) elemB (w.heap.size + 1) _ _ _ (by rfl) HO0.out _ _ _ (by rfl) HS.out (.inl rfl) K3.out K4.out hszW ?_; intro v2 w2 hg2'; have hg2 := grew_more (bs := [2]) rfl rfl rfl hg2'; clear hg2')
      | (refine step_app (by rfl) _ _ (by rfl) elemB (w.heap.size + 1) v2 _ _ (by rfl) hg2.own (.string ⟨s.toArray⟩) _ _ (by rfl) (Source.text _ Try.underlying9 rfl) (.inr rfl) K5.out K6.out (Nat.le_trans hszW hg2.by_.size) ?_; intro v3 w3 hg3))
  all_goals
    go_wp2
    go_ret
    have h3 := hg2.trans (grew_more (cs := s) rfl (by simp [ByteArray.size]) (strCells_of s) hg3)
    exact ⟨v3, rfl, ownsRow_weak h3.own (by omega), hbW.trans ((h3.below hszW (fun g hg => (HO0.out.lt g hg).1)).mono (by omega))⟩

set_option maxRecDepth 100000 in
set_option maxHeartbeats 3200000 in
theorem rencode_3 (k n : Int) (s : List UInt8) (l : List V) (a : Option Addr) (cap : Nat) (w : World) (h1 : ¬ k = 1) (h2 : ¬ k = 2) (hr : RepL w l a) (hl : l.length ≤ cap) (hc : l.length ≤ 140737488351232) (hlen : (V.encs l).length ≤ 1000000)
    (ih : ∀ v, v ∈ l → ∀ w c, RepV w v c → Calls Try.prog 27 #[c] w (Fresh v.enc w)) :
    Calls Try.prog 27 #[.agg #[.int .i64 k, .int .i64 n, .string ⟨s.toArray⟩, .slice a l.length cap]] w (Fresh (V.mk k n s l).enc w) := by
  have e0 : (V.mk k n s l).enc = [3] ++ num l.length ++ V.encs l := by simp [V.enc, h1, h2]
  rw [e0]
  have hll := V.encs_len l
  have hm := fun w => rnumeral l.length w (by omega)
  have hpos := num_pos l.length
  have hle := num_le l.length
  have g1 : (k == 1) = false := by simpa using h1
  have g2 : (k == 2) = false := by simpa using h2
  generalize num l.length = xs at *
  have HM := Lib.hid hm
  have HR := Lib.hid hr
  have IH := Lib.hid ih
  have K3 := Lib.hid (maxLen_le (n := [(3 : UInt8)].length + xs.length) (by simp; omega))
  have K4 := Lib.hid (show ([(3 : UInt8)].length + xs.length) * 1 ≤ 140737488355328 by simp; omega)
  clear hm e0 h1 h2 hr ih
  go_enter Try.func27, Try.ntmps27
  go_wp2_with fail
  refine (HM.out _).mono ?_
  rintro e w1 ⟨v1, rfl, hown1, hb1⟩
  have hown0 := ownsRow_below (own_lit1 (w.alloc (Obj.cells #[.int .i64 k, .int .i64 n, .string ⟨s.toArray⟩, .slice a l.length cap] 24)) 3 3 rfl (w.heap.size + 1) (by simp)) hb1
  rw [size_a1] at hown0
  have HO0 := Lib.hid hown0
  have HO1 := Lib.hid hown1
  have hsz : w.heap.size + 1 ≤ w1.heap.size := by have := hb1.size; simp at this; omega
  have hbb : Below (w.heap.size + 1) (w.alloc (.cells #[.int .i64 k, .int .i64 n, .string ⟨s.toArray⟩, .slice a l.length cap] 24)) w1 := ((Below.refl _ _).alloc (by simp) _).trans (hb1.mono (by simp))
  clear hown0 hown1 hb1
  go_wp2_with (at_builtin; refine wpList_app rfl _ _ rfl elemB (w.heap.size + 1) _ _ _ rfl HO0.out _ _ _ rfl (Source.own HO1.out (byteV_one _)) (.inl rfl) K3.out K4.out hsz ?_; intro v2 w2 hg2)
  have hg3 := grew_more (bs := [3]) rfl rfl rfl hg2
  have hb3 := hbb.trans (hg3.below hsz (fun g hg => (HO0.out.lt g hg).1))
  have HG3 := Lib.hid hg3.own
  clear hg2 hg3 hbb
  go_loopw [3, 4] (fun u i wr => ∃ j : Nat, j ≤ l.length ∧ i = .int .i64 j ∧ wr.ownsRow (w.heap.size + 1) 5 1 u ([3] ++ xs ++ V.encs (l.take j)).length (([3] ++ xs ++ V.encs (l.take j)).map byteV) ∧ Below (w.heap.size + 1) (w.alloc (.cells #[.int .i64 k, .int .i64 n, .string ⟨s.toArray⟩, .slice a l.length cap] 24)) wr) (fun _ i _ => l.length - (intOf i).toNat)
  case atStart => exact ⟨0, Nat.zero_le _, rfl, by simpa [V.encs] using HG3.out, hb3⟩
  case round =>
    obtain ⟨j, hj, rfl, hown, hb⟩ := hrel
    have HO := Lib.hid hown
    have q3 : wr.cell? ⟨w.heap.size, 3, none⟩ = some (.slice a l.length cap) := (hb.cell (by simp)).trans (by go_simp)
    have hb0 : Below w.heap.size w wr := ((Below.refl _ _).alloc (Nat.le_refl _) _).trans (hb.mono (by omega))
    clear hown
    by_cases hlt : j < l.length
    · obtain ⟨b, off, k0, n0, s0, a', len', cap', rfl, g0, g1, g2, g3, hv⟩ := (RepL.below hb0 HR.out).at j hlt
      have HV := Lib.hid hv
      have hle2 := V.encs_take_le l j hlt
      have hsz1 : w.heap.size + 1 ≤ wr.heap.size := by have := hb.size; simpa using this
      clear hv
      go_wp2_with fail
      refine (IH.out l[j] (List.getElem_mem _) _ _ HV.out).mono ?_
      rintro e w5 ⟨v5, rfl, hown5, hb5⟩
      have HO5 := Lib.hid hown5
      have HO6 := Lib.hid (ownsRow_below HO.out hb5)
      have hb6 := hb.trans (hb5.mono hsz1)
      have hsz6 : w.heap.size + 1 ≤ w5.heap.size := Nat.le_trans hsz1 hb5.size
      have K5 := Lib.hid (maxLen_le (n := ([3] ++ xs ++ V.encs (l.take j)).length + l[j].enc.length) (by simp only [List.length_append, List.length_cons, List.length_nil]; omega))
      have K6 := Lib.hid (show (([3] ++ xs ++ V.encs (l.take j)).length + l[j].enc.length) * 1 ≤ 140737488355328 by simp only [List.length_append, List.length_cons, List.length_nil]; omega)
      clear hown5 hb5
      go_wp2_with (at_builtin; refine wpList_app rfl _ _ rfl elemB (w.heap.size + 1) _ _ _ rfl HO6.out _ _ _ rfl (Source.own HO5.out (byteV_one _)) (.inl rfl) K5.out K6.out hsz6 ?_; intro v7 w7 hg7)
      have hg8 := grew_more rfl rfl rfl hg7
      have hb8 := hb6.trans (hg8.below hsz6 (fun g hg => (HO6.out.lt g hg).1))
      go_roundw
      case rel =>
        refine ⟨j + 1, by omega, by go_num, ?_, hb8⟩
        have e : [3] ++ xs ++ V.encs (l.take (j + 1)) = ([3] ++ xs ++ V.encs (l.take j)) ++ l[j].enc := by rw [V.encs_take_succ l j hlt]; simp
        rw [e]
        exact hg8.own
      case measure => simp [intOf]; omega
    · have e4 : l.take j = l := List.take_of_length_le (by omega)
      rw [e4] at HO
      clear e4
      go_wp2
      go_ret
      exact ⟨_, rfl, ownsRow_weak HO.out (by omega), hb0⟩

theorem rencode_any (m : Nat) : ∀ (v : V) (w : World) (c : Value), SizeOf.sizeOf v ≤ m → v.enc.length ≤ 1000000 → RepV w v c → Calls Try.prog 27 #[c] w (Fresh v.enc w) := by
  induction m with
  | zero => intro v w c hm; cases v; simp at hm
  | succ m ih =>
    intro v w c hm hlen hr
    obtain ⟨k, n, s, l⟩ := v
    simp only [RepV] at hr
    obtain ⟨a, cap, rfl, hk, hn, hs, hl, hcap, hrl⟩ := hr
    by_cases h1 : k = 1
    · subst h1; exact rencode_1 n s l a cap w hn
    · by_cases h2 : k = 2
      · subst h2
        have e : (V.mk 2 n s l).enc = 2 :: (num s.length ++ s) := by simp [V.enc]
        rw [e] at hlen
        exact rencode_2 n s l a cap w (by simp at hlen; omega)
      · have e : (V.mk k n s l).enc = 3 :: (num l.length ++ V.encs l) := by simp [V.enc, h1, h2]
        rw [e] at hlen
        have hl2 : (V.encs l).length ≤ 1000000 := by simp at hlen; omega
        refine rencode_3 k n s l a cap w h1 h2 hrl hl hcap hl2 fun x hx w' c' hr' => ih x w' c' ?_ ?_ hr'
        · have := List.sizeOf_lt_of_mem hx
          simp at hm; omega
        · obtain ⟨i, hi, rfl⟩ := List.mem_iff_getElem.1 hx
          have := V.encs_take_le l i hi
          omega
end Go.Proofs.Ytedkoifbjmemdaa
