/- codec: how values are written -/
import Derived.Test.YtedkoifbjmemdaaZz
import Derived.Deep.RegionHeld3
import Derived.Deep.DrawnRows
namespace Go.Proofs.Ytedkoifbjmemdaa
open Go.RowKit
attribute [local go_sem ↓] Go.wp_at_zero Go.wp_at_succ
/-- The row v has become a row of the bytes xs. -/
def Wrote (base : Nat) (xs : List UInt8) (v : Value) (w : World) (e : Ending) (w' : World) : Prop :=
  ∃ v', e = .returned v' ∧ Grew base 5 1 w v v' xs.length (xs.map byteV) w'
theorem grew_lies {base : Nat} {e : TypeId} {size : Nat} {w w' : World} {v : Value} {g n cap : Nat} {xs : List Value} {H : Nat} (hH : w.heap.size = H)
    (h1 : w'.ownsRow base e size (.slice (some ⟨g, 0, none⟩) n cap) n xs) (h2 : w.grownBy w' v.ownBlock) (h3 : v.ownBlock = some g ∨ g = H) : Grew base e size w v (.slice (some ⟨g, 0, none⟩) n cap) n xs w' :=
  ⟨h1, h2, fun g' hg' => by cases hg'; rcases h3 with h3 | h3; exact .inr h3; exact .inl (Nat.le_of_eq (hH.trans h3.symm))⟩

theorem size_a1d (w : World) (o : Obj) : (w.alloc o).drew.heap.size = w.heap.size + 1 := by simp
theorem size_a1 (w : World) (o : Obj) : (w.alloc o).heap.size = w.heap.size + 1 := by simp
theorem size_a2d (w : World) (o o' : Obj) : ((w.alloc o).alloc o').drew.heap.size = w.heap.size + 2 := by simp
theorem le_a2d {b : Nat} {w : World} (h : b ≤ w.heap.size) (o o' : Obj) : b ≤ ((w.alloc o).alloc o').drew.heap.size := by rw [size_a2d]; omega
theorem heap_new_drew (W : World) (o : Obj) (H : Nat) (h : W.heap.size = H) : (W.alloc o).drew.heap[H]? = some o := by subst h; exact heap_alloc_new W o

theorem own_snoc {base : Nat} {bs : List UInt8} {b : UInt8} {n : Int} {v : Value} {w : World} (h : n = (b.toNat : Int)) (ho : w.ownsRow base 5 1 v (bs.length + 1) (bs.map byteV ++ [.int .u8 n])) :
    w.ownsRow base 5 1 v (bs ++ [b]).length ((bs ++ [b]).map byteV) := by
  subst h
  have e : (bs ++ [b]).map byteV = bs.map byteV ++ [.int .u8 (b.toNat : Int)] := by simp [byteV]
  rw [e, List.length_append]
  exact ho
theorem grew_snoc {base : Nat} {bs : List UInt8} {b : UInt8} {n : Int} {v v' : Value} {w w' : World} (h : n = (b.toNat : Int)) (ho : Grew base 5 1 w v v' (bs.length + 1) (bs.map byteV ++ [.int .u8 n]) w') :
    Grew base 5 1 w v v' (bs ++ [b]).length ((bs ++ [b]).map byteV) w' := ⟨own_snoc h ho.own, ho.by_, ho.new⟩

theorem own_ne {v : Value} {g H B n cap : Nat} (hat : v.ownBlock = some g ∨ g = H) (hne : some B ≠ v.ownBlock) (hB : B < H) : (Value.slice (some ⟨g, 0, none⟩) n cap).ownBlock ≠ some B := by
  intro e
  injection e with e
  rcases hat with h | h
  · exact hne (e ▸ h.symm)
  · have e' : g = B := e
    omega

set_option maxRecDepth 100000 in
set_option maxHeartbeats 3200000 in
theorem write1_any (base : Nat) (bs : List UInt8) (v : Value) (k n : Int) (s : List UInt8) (l : Value) (w : World) (hn : i64R n) (hbs : bs.length ≤ 1000000) (hbase : base ≤ w.heap.size)
    (hown : w.ownsRow base 5 1 v bs.length (bs.map byteV)) : Calls Try.prog 37 #[v, .agg #[.int .i64 k, .int .i64 n, .string ⟨s.toArray⟩, l]] w (Wrote base (bs ++ 1 :: num (zz n)) v w) := by
  obtain ⟨i0, hi, hz0, hz1, hz2⟩ := info_parts infoB
  have HO := Lib.hid hown
  have HU : Hid (∀ w, Calls Try.prog 39 #[.int .i64 n] w fun e w' => e = .returned (.int .u64 (zz n)) ∧ w = w') := fun w => unsigned_any n w hn
  have HZ := Lib.hid (zz_lt hn)
  have hne : ∀ g, v.ownBlock = some g → g < w.heap.size := fun g hg => (hown.lt g hg).2
  have hne' : some w.heap.size ≠ v.ownBlock := fun e => by have := hne _ e.symm; omega
  have K3 := Lib.hid (maxLen_le (n := bs.length + 1) (by omega))
  have K4 := Lib.hid (show (bs.length + 1) * 1 ≤ 140737488355328 by omega)
  have KB := Lib.hid (show (bs ++ [(1 : UInt8)]).length ≤ 1000000000 by simp; omega)
  clear hown hn hne
  generalize zz n = u at *
  go_enter Try.func37, Try.ntmps37
  go_wp2_with fail
  go_region_held3 (fun w' => w'.cell? ⟨w.heap.size, 1, none⟩ = some (.int .i64 n))
    (first
      | go_keep
      | (rw [hgrow.cell_far _ (by simp; omega) hne']; assumption)
      | exact hg2.cell ‹_› (own_ne (B := w.heap.size) (H := w.heap.size + 2) hat hne' (by omega)))
    (first
      | (go_at_call 39; refine (HU.out _).mono ?_; rintro e w' ⟨rfl, rfl⟩)
      | (go_at_call 38; refine (numeral_any base (bs ++ [1]) _ u _ HZ.out KB.out (Nat.le_trans (le_a2d hbase _ _) hgrow.size) (own_snoc rfl hown1)).mono ?_; rintro e w2 ⟨v2, rfl, hg2⟩)
      | (refine step_append_lies _ (by rfl) _ _ _ (by rfl) base 5 i0 (.int .u8 0) 1 1 Try.underlying27 hi hz0 hz1 hz2 rfl Nat.one_pos v bs.length (bs.map byteV) (by rfl) (((HO.out.alloc _).alloc _).drew)
          ⟨w.heap.size + 1, 0, none⟩ 1 1 [.int .u8 1] (by rfl) (by rfl) (World.news_of_block (cs := #[.int .u8 1]) (t := 5) (fr := (0, 0)) (heap_new_drew _ _ _ (size_a1 _ _))) (one_int _ _)
          Nat.one_pos K3.out K4.out (le_a2d hbase _ _) (w.heap.size + 2) (size_a2d _ _ _) ?_; intro g cap w1 hown1 hgrow hat hlt))


  go_wp2
  go_ret
  refine ⟨v2, rfl, ?_⟩
  have h1 := (grew_snoc (b := 1) rfl (grew_lies (size_a2d _ _ _) hown1 hgrow hat)).trans hg2
  have h2 := h1.behind (((((Below.refl w.heap.size w).alloc (Nat.le_refl _) (Obj.cells #[.int .i64 k, .int .i64 n, .string ⟨s.toArray⟩, l] 24)).alloc (by simp) (Obj.cells #[.int .u8 1] 5)).drew))
  simpa using h2

theorem elemB : Elem Try.prog 27 5 (.int .u8 0) 1 1 := ⟨Try.underlying27, infoB, rfl, Nat.one_pos, fun _ _ => rfl⟩
theorem strCells_of (s : List UInt8) : Lib.strCells ⟨s.toArray⟩ = s.map byteV := by simp [Lib.strCells, byteV]
theorem grew_more {base : Nat} {bs cs : List UInt8} {v v' : Value} {w w' : World} {n m : Nat} {xs : List Value} (hn : n = bs.length) (hm : m = cs.length) (hx : xs = cs.map byteV)
    (h : Grew base 5 1 w v v' (n + m) (bs.map byteV ++ xs) w') : Grew base 5 1 w v v' (bs ++ cs).length ((bs ++ cs).map byteV) w' := by
  subst hn hm hx
  rw [List.length_append, List.map_append]
  exact h

set_option maxRecDepth 100000 in
set_option maxHeartbeats 3200000 in
theorem write2_any (base : Nat) (bs : List UInt8) (v : Value) (k n : Int) (s : List UInt8) (l : Value) (w : World) (hs : s.length ≤ 1000000) (hbs : bs.length ≤ 1000000) (hbase : base ≤ w.heap.size)
    (hown : w.ownsRow base 5 1 v bs.length (bs.map byteV)) : Calls Try.prog 40 #[v, .agg #[.int .i64 k, .int .i64 n, .string ⟨s.toArray⟩, l]] w (Wrote base (bs ++ 2 :: (num s.length ++ s)) v w) := by
  have HO := Lib.hid hown
  have hne : ∀ g, v.ownBlock = some g → g < w.heap.size := fun g hg => (hown.lt g hg).2
  have hne' : some w.heap.size ≠ v.ownBlock := fun e => by have := hne _ e.symm; omega
  have hnum := num_le s.length
  have K3 := Lib.hid (maxLen_le (n := bs.length + 1) (by omega))
  have K4 := Lib.hid (show (bs.length + 1) * 1 ≤ 140737488355328 by omega)
  have KB := Lib.hid (show (bs ++ [(2 : UInt8)]).length ≤ 1000000000 by simp; omega)
  have KS := Lib.hid (show s.length < 18446744073709551616 by omega)
  have K5 := Lib.hid (maxLen_le (n := (bs ++ [2] ++ num s.length).length + (⟨s.toArray⟩ : ByteArray).size) (by simp [ByteArray.size]; omega))
  have K6 := Lib.hid (show ((bs ++ [2] ++ num s.length).length + (⟨s.toArray⟩ : ByteArray).size) * 1 ≤ 140737488355328 by simp [ByteArray.size]; omega)
  have kw : IntKind.u64.wrap (s.length : Int) = s.length := by simp [IntKind.wrap, IntKind.bits, IntKind.signed]; omega
  clear hown hne
  go_enter Try.func40, Try.ntmps40
  go_wp2_with fail
  go_region_held3 (fun w' => w'.cell? ⟨w.heap.size, 2, none⟩ = some (.string ⟨s.toArray⟩))
    (first
      | go_keep
      | exact hg1.cell ‹_› (fun e => hne' e.symm)
      | exact hg2.cell ‹_› (fun e => by rcases hg1.new _ e with h | h; (rw [size_a2d] at h; have h' : w.heap.size + 2 ≤ w.heap.size := h; omega); exact hne' h.symm)
      | exact hg3.cell ‹_› (fun e => by rcases (hg1.trans hg2).new _ e with h | h; (rw [size_a2d] at h; have h' : w.heap.size + 2 ≤ w.heap.size := h; omega); exact hne' h.symm))
    (first
      | (go_at_call 38; ((with_reducible refine (numeral_any base (bs ++ [2]) _ s.length _ KS.out KB.out (Nat.le_trans (le_a2d hbase _ _) hg1.by_.size) hg1.own).mono ?_)); rintro e w2 ⟨v2, rfl, hg2⟩)
      | (refine step_app (by rfl) _ _ (by rfl) elemB base v bs.length (bs.map byteV) (by rfl) (((HO.out.alloc _).alloc _).drew) (.slice (some ⟨w.heap.size + 1, 0, none⟩) 1 1) 1 [.int .u8 2] (by rfl)
          (Source.one (e := 5) _ _ (heap_new_drew _ _ _ (size_a1 _ _)) rfl) (.inl rfl) K3.out K4.out (le_a2d hbase _ _) ?_; intro v1 w1 hg1'; have hg1 := grew_snoc (b := 2) rfl hg1'; clear hg1')
      | (refine step_app (by rfl) _ _ (by rfl) elemB base v2 _ _ (by rfl) hg2.own (.string ⟨s.toArray⟩) _ _ (by rfl) (Source.text _ Try.underlying9 rfl) (.inr rfl) K5.out K6.out (Nat.le_trans (le_a2d hbase _ _) (Nat.le_trans hg1.by_.size hg2.by_.size)) ?_; intro v3 w3 hg3))
  go_wp2
  go_ret
  refine ⟨v3, rfl, ?_⟩
  have h1 := (hg1.trans hg2).trans (grew_more (cs := s) rfl (by simp [ByteArray.size]) (strCells_of s) hg3)
  have h2 := h1.behind (((((Below.refl w.heap.size w).alloc (Nat.le_refl _) (Obj.cells #[.int .i64 k, .int .i64 n, .string ⟨s.toArray⟩, l] 24)).alloc (by simp) (Obj.cells #[.int .u8 2] 5)).drew))
  simpa using h2
end Go.Proofs.Ytedkoifbjmemdaa
