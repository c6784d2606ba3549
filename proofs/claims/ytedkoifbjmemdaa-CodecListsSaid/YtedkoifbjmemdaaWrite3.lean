/- codec: how lists are written -/
import Derived.Test.YtedkoifbjmemdaaWrite
namespace Go.Proofs.Ytedkoifbjmemdaa
set_option linter.unusedSimpArgs false
set_option linter.unusedVariables false
open Go.RowKit
attribute [local go_sem ↓] Go.wp_at_zero Go.wp_at_succ
/-- the table of the writing functions, and the variable that leads to it -/
structure Writer (w : World) (p : Addr) (q : Nat) : Prop where
  var : w.cell? p = some (.pointer (some ⟨q, 0, none⟩))
  f1 : w.cell? ⟨q, 1, none⟩ = some (.func (.func 37) #[] #[])
  f2 : w.cell? ⟨q, 2, none⟩ = some (.func (.func 40) #[] #[])
  f3 : w.cell? ⟨q, 3, none⟩ = some (.func (.func 41) #[] #[.pointer (some p)])
theorem Writer.below {w w' : World} {p : Addr} {q : Nat} (h : Writer w p q) (hb : Below w.heap.size w w') : Writer w' p q :=
  ⟨below_cell hb h.var, below_cell hb h.f1, below_cell hb h.f2, below_cell hb h.f3⟩
structure Writes (p : Addr) (base : Nat) (bs : List UInt8) (v : V) (k : Int) (bv c : Value) (w : World) : Prop where
  w1 : k = 1 → Calls Try.prog 37 #[bv, c] w (Wrote base (bs ++ v.enc) bv w)
  w2 : k = 2 → Calls Try.prog 40 #[bv, c] w (Wrote base (bs ++ v.enc) bv w)
  w3 : k = 3 → Calls Try.prog 41 #[bv, c, .pointer (some p)] w (Wrote base (bs ++ v.enc) bv w)

theorem V.encs_take_succ (l : List V) (k : Nat) (h : k < l.length) : V.encs (l.take (k + 1)) = V.encs (l.take k) ++ l[k].enc := by
  induction l generalizing k with
  | nil => simp at h
  | cons v l ih =>
    cases k with
    | zero => simp [V.encs]
    | succ k => simp only [List.take_succ_cons, V.encs, List.getElem_cons_succ]; rw [ih k (by simpa using h), List.append_assoc]
theorem V.encs_take_le (l : List V) (k : Nat) (h : k < l.length) : (V.encs (l.take k)).length + l[k].enc.length ≤ (V.encs l).length := by
  induction l generalizing k with
  | nil => simp at h
  | cons v l ih =>
    cases k with
    | zero => simp [V.encs]
    | succ k => simp only [List.take_succ_cons, V.encs, List.getElem_cons_succ, List.length_append]; have := ih k (by simpa using h); omega
theorem V.oks_at (l : List V) (k : Nat) (h : k < l.length) (hok : V.oks l = true) : l[k].ok = true := by
  cases hx : l[k].ok with
  | true => rfl
  | false => rw [V.oks_false l k h hx] at hok; cases hok
theorem V.kind_of {v : V} {w : World} {k : Int} {n s sl : Value} (hok : v.ok = true) (hr : RepV w v (.agg #[.int .i64 k, n, s, sl])) : k = 1 ∨ k = 2 ∨ k = 3 := by
  obtain ⟨k', n', s', l'⟩ := v
  simp only [RepV] at hr
  obtain ⟨a, cap, hc, _⟩ := hr
  simp only [Value.agg.injEq, Array.mk.injEq, List.cons.injEq, Value.int.injEq, and_true, true_and] at hc
  obtain ⟨rfl, _⟩ := hc
  simp only [V.ok] at hok
  by_cases h1 : k = 1
  · exact .inl h1
  · rw [if_neg h1] at hok
    by_cases h2 : k = 2
    · exact .inr (.inl h2)
    · rw [if_neg h2] at hok
      by_cases h3 : k = 3
      · exact .inr (.inr h3)
      · rw [if_neg h3] at hok; cases hok
theorem below_a1d {w w' : World} (h : Below w.heap.size w w') (o : Obj) : Below w.heap.size w (w'.alloc o).drew := (h.alloc h.size o).drew
theorem le_a1d {b : Nat} {w : World} (h : b ≤ w.heap.size) (o : Obj) : b ≤ (w.alloc o).drew.heap.size := by rw [size_a1d]; omega

set_option maxRecDepth 100000 in
set_option maxHeartbeats 3200000 in
theorem write3_any (w0 : World) (p : Addr) (q : Nat) (hW : Writer w0 p q) (base : Nat) (hw0 : w0.heap.size ≤ base) (l : List V) (a : Option Addr) (cap : Nat) (hr : RepL w0 l a) (hok : V.oks l = true) (hl : l.length ≤ cap) (hcap : l.length ≤ 140737488351232)
    (ih : ∀ x, x ∈ l → ∀ w bs bv k n s sl, RepV w0 x (.agg #[.int .i64 k, n, s, sl]) → Below w0.heap.size w0 w → base ≤ w.heap.size → w.ownsRow base 5 1 bv bs.length (bs.map byteV) → (bs ++ x.enc).length ≤ 1000000 → Writes p base bs x k bv (.agg #[.int .i64 k, n, s, sl]) w)
    (bs : List UInt8) (bv : Value) (w : World) (n : Int) (s : ByteArray) (hb0 : Below w0.heap.size w0 w) (hbase : base ≤ w.heap.size) (hown : w.ownsRow base 5 1 bv bs.length (bs.map byteV)) (hlen : (bs ++ 3 :: (num l.length ++ V.encs l)).length ≤ 1000000) :
    Calls Try.prog 41 #[bv, .agg #[.int .i64 3, .int .i64 n, .string s, .slice a l.length cap], .pointer (some p)] w (Wrote base (bs ++ 3 :: (num l.length ++ V.encs l)) bv w) := by
  have HO := Lib.hid hown
  have HR := Lib.hid hr
  have IH := Lib.hid ih
  have hne : ∀ g, bv.ownBlock = some g → g < w.heap.size := fun g hg => (hown.lt g hg).2
  have hge : ∀ g, bv.ownBlock = some g → base ≤ g := fun g hg => (hown.lt g hg).1
  have hne' : some w.heap.size ≠ bv.ownBlock := fun e => by have := hne _ e.symm; omega
  have hle := V.encs_len l
  simp only [List.length_append, List.length_cons] at hlen
  have K3 := Lib.hid (maxLen_le (n := bs.length + 1) (by omega))
  have K4 := Lib.hid (show (bs.length + 1) * 1 ≤ 140737488355328 by omega)
  have KB := Lib.hid (show (bs ++ [(3 : UInt8)]).length ≤ 1000000000 by simp; omega)
  have KS := Lib.hid (show l.length < 18446744073709551616 by omega)
  have kw : IntKind.u64.wrap (l.length : Int) = l.length := by simp [IntKind.wrap, IntKind.bits, IntKind.signed]; omega
  have HGE := Lib.hid hge
  have hll : l.length ≤ 1000000 := by omega
  clear hown hne hr ih hge
  go_enter Try.func41, Try.ntmps41
  go_wp2_with fail
  go_region_held3 (fun w' => w'.cell? ⟨w.heap.size, 3, none⟩ = some (.slice a l.length cap))
    (first
      | go_keep
      | exact hg1.cell ‹_› (fun e => hne' e.symm)
      | exact hg2.cell ‹_› (fun e => by rcases hg1.new _ e with h | h; (rw [size_a2d] at h; have h' : w.heap.size + 2 ≤ w.heap.size := h; omega); exact hne' h.symm))
    (first
      | (go_at_call 38; ((with_reducible refine (numeral_any base (bs ++ [3]) _ l.length _ KS.out KB.out (Nat.le_trans (le_a2d hbase _ _) hg1.by_.size) hg1.own).mono ?_)); rintro e w2 ⟨v2, rfl, hg2⟩)
      | (refine step_app (by rfl) _ _ (by rfl) elemB base bv bs.length (bs.map byteV) (by rfl) (((HO.out.alloc _).alloc _).drew) (.slice (some ⟨w.heap.size + 1, 0, none⟩) 1 1) 1 [.int .u8 3] (by rfl)
          (Source.one (e := 5) _ _ (heap_new_drew _ _ _ (size_a1 _ _)) rfl) (.inl rfl) K3.out K4.out (le_a2d hbase _ _) ?_; intro v1 w1 hg1'; have hg1 := grew_snoc (b := 3) rfl hg1'; clear hg1'))
  have hq : w2.cell? ⟨w.heap.size, 3, none⟩ = some (.slice a l.length cap) := by assumption
  have hgb := (hg1.trans hg2).behind (((((Below.refl w.heap.size w).alloc (Nat.le_refl _) (Obj.cells #[.int .i64 3, .int .i64 n, .string s, .slice a l.length cap] 24)).alloc (by simp) (Obj.cells #[.int .u8 3] 5)).drew))
  have hsz2 : w.heap.size ≤ w2.heap.size := hgb.by_.size
  have HGB := Lib.hid hgb
  clear hg1 hg2 hgb kw
  go_wp2
  go_loopw [0, 19] (fun u i wr => ∃ k : Nat, k ≤ l.length ∧ i = .int .i64 k ∧ Grew base 5 1 w bv u (bs ++ 3 :: (num l.length ++ V.encs (l.take k))).length ((bs ++ 3 :: (num l.length ++ V.encs (l.take k))).map byteV) wr) (fun _ i _ => l.length - (intOf i).toNat)
  case atStart => exact ⟨0, Nat.zero_le _, rfl, by simpa [V.encs] using HGB.out⟩
  case round =>
    obtain ⟨k, hk, rfl, hg⟩ := hrel
    have hbr : Below w0.heap.size w0 wr := hb0.trans (hg.below (Nat.le_trans hw0 hbase) (fun g h => Nat.le_trans hw0 (HGE.out g h)))
    have hbw : base ≤ wr.heap.size := Nat.le_trans hbase hg.by_.size
    have hn3 : ∀ b, (b < base ∨ wr.heap.size ≤ b) → u0.ownBlock ≠ some b := fun b hb e => by have := hg.own.lt b e; omega
    have HG := Lib.hid hg
    clear hg
    by_cases hlt : k < l.length
    · obtain ⟨b, off, k0, n0, s0, a', len', cap', rfl, g0, g1, g2, g3, hv⟩ := HR.out.at k hlt
      replace g0 := below_cell hbr g0
      replace g1 := below_cell hbr g1
      replace g2 := below_cell hbr g2
      replace g3 := below_cell hbr g3
      have hWr := hW.below hbr
      have gp := hWr.var
      have hpb : p.block < base := Nat.lt_of_lt_of_le (World.block_lt_of_cell? _ _ hW.var) hw0
      have hqb : q < base := Nat.lt_of_lt_of_le (World.block_lt_of_cell? _ _ hW.f1) hw0
      have hle2 := V.encs_take_le l k hlt
      have hle3 : (bs ++ 3 :: (num l.length ++ V.encs (l.take k)) ++ l[k].enc).length ≤ 1000000 := by simp only [List.length_append, List.length_cons]; omega
      have hk0 := V.kind_of (V.oks_at l k hlt hok) hv
      have HV := Lib.hid hv
      have HLE := Lib.hid hle3
      clear hv hle3 hle2
      rcases hk0 with rfl | rfl | rfl
      · have gF : wr.cell? ⟨q, 1, none⟩ = some (.func (.func 37) #[] #[]) := hWr.f1
        have ihx := fun W h1 h2 h3 => (IH.out l[k] (List.getElem_mem _) W _ u0 1 (.int .i64 n0) (.string s0) (.slice a' len' cap') HV.out h1 h2 h3 HLE.out).w1 rfl
        have IHX := Lib.hid ihx
        clear ihx
        go_wp2_with fail
        go_region_held3 (fun w' => w'.cell? p = some (.pointer (some ⟨q, 0, none⟩)) ∧ w'.cell? ⟨q, 1, none⟩ = some (.func (.func 37) #[] #[]) ∧ w'.cell? ⟨wr.heap.size, 0, none⟩ = some (.int .i64 1) ∧ w'.cell? ⟨wr.heap.size, 1, none⟩ = some (.int .i64 n0) ∧ w'.cell? ⟨wr.heap.size, 2, none⟩ = some (.string s0) ∧ w'.cell? ⟨wr.heap.size, 3, none⟩ = some (.slice a' len' cap'))
          (first
            | go_keep
            | (go_split_ands; refine ⟨?_, ?_, ?_, ?_, ?_, ?_⟩ <;> first | exact hg3.cell ‹_› (hn3 _ (.inl hpb)) | exact hg3.cell ‹_› (hn3 _ (.inl hqb)) | exact hg3.cell ‹_› (hn3 _ (.inr (Nat.le_refl _)))))
          (first
            | (go_at_call 37; ((with_reducible refine (IHX.out _ (below_a1d hbr _) (le_a1d hbw _) ((HG.out.own.alloc _).drew)).mono ?_)); rintro e w3 ⟨v3, rfl, hg3⟩))
        go_wp2
        go_roundw
        case rel =>
          refine ⟨k + 1, by omega, by go_num, ?_⟩
          have h3 := HG.out.trans (hg3.behind (((Below.refl _ _).alloc (Nat.le_refl _) _).drew))
          have e : bs ++ 3 :: (num l.length ++ V.encs (l.take (k + 1))) = (bs ++ 3 :: (num l.length ++ V.encs (l.take k))) ++ l[k].enc := by rw [V.encs_take_succ l k hlt]; simp
          rw [e]
          exact h3
        case measure => simp [intOf]; omega
      · have gF : wr.cell? ⟨q, 2, none⟩ = some (.func (.func 40) #[] #[]) := hWr.f2
        have ihx := fun W h1 h2 h3 => (IH.out l[k] (List.getElem_mem _) W _ u0 2 (.int .i64 n0) (.string s0) (.slice a' len' cap') HV.out h1 h2 h3 HLE.out).w2 rfl
        have IHX := Lib.hid ihx
        clear ihx
        go_wp2_with fail
        go_region_held3 (fun w' => w'.cell? p = some (.pointer (some ⟨q, 0, none⟩)) ∧ w'.cell? ⟨q, 2, none⟩ = some (.func (.func 40) #[] #[]) ∧ w'.cell? ⟨wr.heap.size, 0, none⟩ = some (.int .i64 2) ∧ w'.cell? ⟨wr.heap.size, 1, none⟩ = some (.int .i64 n0) ∧ w'.cell? ⟨wr.heap.size, 2, none⟩ = some (.string s0) ∧ w'.cell? ⟨wr.heap.size, 3, none⟩ = some (.slice a' len' cap'))
          (first
            | go_keep
            | (go_split_ands; refine ⟨?_, ?_, ?_, ?_, ?_, ?_⟩ <;> first | exact hg3.cell ‹_› (hn3 _ (.inl hpb)) | exact hg3.cell ‹_› (hn3 _ (.inl hqb)) | exact hg3.cell ‹_› (hn3 _ (.inr (Nat.le_refl _)))))
          (first
            | (go_at_call 40; ((with_reducible refine (IHX.out _ (below_a1d hbr _) (le_a1d hbw _) ((HG.out.own.alloc _).drew)).mono ?_)); rintro e w3 ⟨v3, rfl, hg3⟩))
        go_wp2
        go_roundw
        case rel =>
          refine ⟨k + 1, by omega, by go_num, ?_⟩
          have h3 := HG.out.trans (hg3.behind (((Below.refl _ _).alloc (Nat.le_refl _) _).drew))
          have e : bs ++ 3 :: (num l.length ++ V.encs (l.take (k + 1))) = (bs ++ 3 :: (num l.length ++ V.encs (l.take k))) ++ l[k].enc := by rw [V.encs_take_succ l k hlt]; simp
          rw [e]
          exact h3
        case measure => simp [intOf]; omega
      · have gF : wr.cell? ⟨q, 3, none⟩ = some (.func (.func 41) #[] #[.pointer (some p)]) := hWr.f3
        have ihx := fun W h1 h2 h3 => (IH.out l[k] (List.getElem_mem _) W _ u0 3 (.int .i64 n0) (.string s0) (.slice a' len' cap') HV.out h1 h2 h3 HLE.out).w3 rfl
        have IHX := Lib.hid ihx
        clear ihx
        go_wp2_with fail
        go_region_held3 (fun w' => w'.cell? p = some (.pointer (some ⟨q, 0, none⟩)) ∧ w'.cell? ⟨q, 3, none⟩ = some (.func (.func 41) #[] #[.pointer (some p)]) ∧ w'.cell? ⟨wr.heap.size, 0, none⟩ = some (.int .i64 3) ∧ w'.cell? ⟨wr.heap.size, 1, none⟩ = some (.int .i64 n0) ∧ w'.cell? ⟨wr.heap.size, 2, none⟩ = some (.string s0) ∧ w'.cell? ⟨wr.heap.size, 3, none⟩ = some (.slice a' len' cap'))
          (first
            | go_keep
            | (go_split_ands; refine ⟨?_, ?_, ?_, ?_, ?_, ?_⟩ <;> first | exact hg3.cell ‹_› (hn3 _ (.inl hpb)) | exact hg3.cell ‹_› (hn3 _ (.inl hqb)) | exact hg3.cell ‹_› (hn3 _ (.inr (Nat.le_refl _)))))
          (first
            | (go_at_call 41; ((with_reducible refine (IHX.out _ (below_a1d hbr _) (le_a1d hbw _) ((HG.out.own.alloc _).drew)).mono ?_)); rintro e w3 ⟨v3, rfl, hg3⟩))
        go_wp2
        go_roundw
        case rel =>
          refine ⟨k + 1, by omega, by go_num, ?_⟩
          have h3 := HG.out.trans (hg3.behind (((Below.refl _ _).alloc (Nat.le_refl _) _).drew))
          have e : bs ++ 3 :: (num l.length ++ V.encs (l.take (k + 1))) = (bs ++ 3 :: (num l.length ++ V.encs (l.take k))) ++ l[k].enc := by rw [V.encs_take_succ l k hlt]; simp
          rw [e]
          exact h3
        case measure => simp [intOf]; omega
    · have e4 : l.take k = l := List.take_of_length_le (by omega)
      rw [e4] at HG
      clear e4
      go_wp2
      go_ret
      exact ⟨u0, rfl, HG.out⟩
end Go.Proofs.Ytedkoifbjmemdaa
