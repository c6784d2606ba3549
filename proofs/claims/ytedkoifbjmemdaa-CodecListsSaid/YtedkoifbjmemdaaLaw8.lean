/- CodecLists: its walk -/
import Derived.Test.YtedkoifbjmemdaaLists
namespace Go.Proofs.Ytedkoifbjmemdaa
set_option linter.unusedSimpArgs false
set_option linter.unusedVariables false
open Go.RowKit
attribute [local go_sem ↓] Go.wp_at_zero Go.wp_at_succ
def zc4 : List Value := [.int .i64 1, .int .i64 0, .string ⟨#[]⟩, .slice none 0 0]
def zcs : Nat → List Value
  | 0 => []
  | n + 1 => zcs n ++ zc4
theorem rep_snoc (k : Nat) : List.replicate (k + 1) zv = List.replicate k zv ++ [zv] := List.replicate_succ'
theorem zcs_cells (F : Nat → Prop) (w : World) : ∀ k, CellsL F w (List.replicate k zv) (zcs k)
  | 0 => by simp [zcs, CellsL]
  | k + 1 => by
    rw [rep_snoc]
    exact CellsL.snoc (by unfold zv; simp only [RepF, List.length_nil]; exact ⟨none, 0, rfl, by unfold i64R; omega, by unfold i64R; omega, by omega, by omega, by omega, by simp only [RepFL]⟩) (zcs_cells F w k)
theorem zc4_one : ∀ u ∈ zc4, u.oneCell' = true := by simp [zc4, Value.oneCell']
/-- the two rows that the loop fills -/
structure LI (w : World) (bs : List UInt8) (k : Nat) (v3 v4 : Value) (wr : World) : Prop where
  own3 : wr.ownsRow w.heap.size 5 1 v3 bs.length (bs.map byteV)
  own4 : wr.ownsRow w.heap.size 24 4 v4 k (zcs k)
  apart : ∀ g, v3.ownBlock = some g → v4.ownBlock ≠ some g
  by_ : Below w.heap.size w wr
theorem grown_of {w w' : World} (hb : Below w.heap.size w w') : w.grownBy w' none := ⟨hb.os, hb.tape, hb.output, hb.size, fun k hk _ => hb.block k hk⟩
theorem own_later {w w' : World} {base : Nat} {e : TypeId} {size : Nat} {v : Value} {n : Nat} {xs : List Value} (h : w.ownsRow base e size v n xs) (hb : Below w.heap.size w w') : w'.ownsRow base e size v n xs := by
  refine h.kept (grown_of hb) ?_
  cases v.ownBlock with
  | none => exact .inl rfl
  | some g => exact .inr (by simp)
theorem LI.below {w : World} {bs : List UInt8} {k : Nat} {v3 v4 : Value} {wr w' : World} (h : LI w bs k v3 v4 wr) (hb : Below wr.heap.size wr w') : LI w bs k v3 v4 w' :=
  ⟨own_later h.own3 hb, own_later h.own4 hb, h.apart, h.by_.trans (hb.mono h.by_.size)⟩
theorem LI.app3 {w : World} {bs b : List UInt8} {k : Nat} {v3 v3' v4 : Value} {wr w' : World} (h : LI w bs k v3 v4 wr) (hg : Grew w.heap.size 5 1 wr v3 v3' (bs.length + b.length) (bs.map byteV ++ b.map byteV) w') : LI w (bs ++ b) k v3' v4 w' := by
  refine ⟨?_, h.own4.kept hg.by_ ?_, fun g hg' => ?_, h.by_.trans (hg.below h.by_.size fun g e => (h.own3.lt g e).1)⟩
  · rw [List.length_append, List.map_append]; exact hg.own
  · cases e4 : v4.ownBlock with
    | none => exact .inl rfl
    | some g => exact .inr fun e => h.apart g e.symm e4
  · rcases hg.new g hg' with h1 | h1
    · intro e4; have := (h.own4.lt g e4).2; omega
    · exact h.apart g h1
theorem LI.app4 {w : World} {bs : List UInt8} {k : Nat} {v3 v4 v4' : Value} {wr w' : World} (h : LI w bs k v3 v4 wr) (hg : Grew w.heap.size 24 4 wr v4 v4' (k + 1) (zcs k ++ zc4) w') : LI w bs (k + 1) v3 v4' w' := by
  refine ⟨h.own3.kept hg.by_ ?_, hg.own, fun g h3 h4 => ?_, h.by_.trans (hg.below h.by_.size fun g e => (h.own4.lt g e).1)⟩
  · cases e3 : v3.ownBlock with
    | none => exact .inl rfl
    | some g => exact .inr fun e => h.apart g e3 e.symm
  · rcases hg.new g h4 with h1 | h1
    · have := (h.own3.lt g h3).2; omega
    · exact h.apart g h3 h1
theorem LI.start (w w1 : World) (hb : Below w.heap.size w w1) : LI w [] 0 (.slice none 0 0) (.slice none 0 0) w1 :=
  ⟨World.ownsRow_nil .., World.ownsRow_nil .., fun g h => (by cases h), hb⟩
theorem slice_l27 (a : Option Addr) (len cap lo : Nat) (h : lo ≤ len) (w : World) :
    (Instr.slice 27 (.slice a len cap) (some (.int .i64 (lo : Int))) none none).run Try.prog w = .ok (.slice (cutA a cap lo) (len - lo) (cap - lo)) w := by
  rw [run_slice_l (P := Try.prog) w 27 a len cap elem27 .i64 (lo : Int) (by omega) (by omega), size27 w]
  simp only [Result.andThen_ok, sliced, Int.toNat_natCast, cutA]
  simp

theorem encs_take_le (l : List V) {k : Nat} : (V.encs (l.take k)).length ≤ (V.encs l).length := by
  conv => rhs; rw [← List.take_append_drop k l, encs_app, List.length_append]
  omega
theorem zl_small (n : Nat) (h : n ≤ 20) : (lv (List.replicate n zv)).depth ≤ 1000000 ∧ (lv (List.replicate n zv)).enc.length ≤ 1000000 := by
  have h1 := zl_chk n
  have h2 := zl_out n
  rw [out_zero h1] at h2
  have h3 := (chk_zero h1).2
  have := num_le n
  omega
theorem lv_out {l : List V} (h : (lv l).chk = 0) : (lv l).out.length = 1 + (num l.length).length + (V.encs l).length := by
  rw [out_zero h, lv_enc, List.length_cons, List.length_append]; omega
theorem lv_drop {l : List V} (h : (lv l).chk = 0) : (lv l).out.drop (1 + (num l.length).length) = V.encs l := by
  rw [out_zero h, lv_enc, Nat.add_comm 1, List.drop_succ_cons, List.drop_left]
/-- what the loop's head holds -/
def LRel (w : World) (l : List V) (a3 a4 a5 i : Value) (wr : World) : Prop :=
  ∃ k : Nat, k ≤ l.length ∧ i = .int .i64 k ∧ a5 = .int .i64 (V.encs (l.take k)).length ∧ (∀ v ∈ l.take k, v.chk = 0) ∧ LI w (V.encs (l.take k)) k a3 a4 wr
set_option maxRecDepth 100000 in
set_option maxHeartbeats 4000000 in
theorem law8_any (l : List V) (a : Option Addr) (cap : Nat) (w : World) (hr : RepL w l a) (hl : l.length ≤ cap) (hc : l.length ≤ 140737488351232) : Calls Try.prog 8 #[.slice a l.length cap] w (Gives (.bool true) w) := by
  have HR := Lib.hid hr
  have HT := Lib.hid (RepL.textss hr)
  clear hr
  unfold Gives
  go_enter Try.func8, Try.ntmps8
  go_wp2_with fail
  refine (sane_any w).mono ?_
  rintro e w1 ⟨rfl, hb1⟩
  have HB1 := Lib.hid hb1
  clear hb1
  go_wp2_with fail
  refine (few_any l a cap w1 (RepL.below HB1.out HR.out) hl hc).mono ?_
  rintro e w2 ⟨rfl, hb2⟩
  have HB2 := Lib.hid (HB1.out.trans (hb2.mono HB1.out.size))
  clear hb2 HB1
  obtain ⟨f, hf⟩ : ∃ f, fewB l = f := ⟨_, rfl⟩
  rw [hf]
  cases f
  · clear hf
    go_wp2
    go_ret
    exact ⟨rfl, HB2.out⟩
  · by_cases h20 : l.length ≤ 20
    · have HF := Lib.hid hf
      clear hf
      have h20' : decide (20 < l.length) = false := by simp; omega
      have h20'' : decide ((20 : Int) < (l.length : Int)) = false := by simp; omega
      have HLI := Lib.hid (LI.start w w2 HB2.out)
      go_wp2
      go_loopw [3, 4, 5, 31] (fun a3 a4 a5 i wr => LRel w l a3 a4 a5 i wr) (fun _ _ _ i _ => l.length - (intOf i).toNat)
      case atStart => exact ⟨0, Nat.zero_le _, rfl, by simp [V.encs], by simp, HLI.out⟩
      case round =>
        obtain ⟨k, hk, rfl, rfl, hgood, hli⟩ := hrel
        have HG := Lib.hid hgood
        have HL := Lib.hid hli
        have HS := Lib.hid (lv_small HT.out HF.out h20)
        clear hgood hli
        by_cases hlt : k < l.length
        · obtain ⟨b, off, k0, n0, s0, a', len', cap', rfl, g0, g1, g2, g3, hv⟩ := (RepL.below HL.out.by_ HR.out).at k hlt
          have HV := Lib.hid hv
          clear hv
          have hE := few_each HT.out HF.out l[k] (List.getElem_mem _)
          have HE := Lib.hid hE
          have hek := encs_take_le l (k := k)
          have hel := HS.out.2.2
          have hb3 : Below wr.heap.size wr (wr.alloc (.cells #[.int .i64 k0, .int .i64 n0, .string s0, .slice a' len' cap'] 24)) := (Below.refl _ _).alloc (Nat.le_refl _) _
          have HB3 := Lib.hid hb3
          clear hb3
          go_wp2_with fail
          refine (encode_any l[k] _ _ (by omega) (by omega) (RepV.below HB3.out HV.out)).mono ?_
          intro e w3 h3
          obtain ⟨v', rfl, ho3, hb3⟩ := h3
          obtain ⟨a3, cap3, rfl⟩ := own_form ho3
          have x0 : w3.cell? ⟨wr.heap.size, 0, none⟩ = some (.int .i64 k0) := (hb3.cell (by simp)).trans (by go_simp)
          have x1 : w3.cell? ⟨wr.heap.size, 1, none⟩ = some (.int .i64 n0) := (hb3.cell (by simp)).trans (by go_simp)
          have x2 : w3.cell? ⟨wr.heap.size, 2, none⟩ = some (.string s0) := (hb3.cell (by simp)).trans (by go_simp)
          have x3 : w3.cell? ⟨wr.heap.size, 3, none⟩ = some (.slice a' len' cap') := (hb3.cell (by simp)).trans (by go_simp)
          have HO3 := Lib.hid ho3
          have HB4 := Lib.hid (HB3.out.trans (hb3.mono HB3.out.size))
          clear ho3 hb3 HB3
          go_wp2_with fail
          refine (size_any l[k] _ _ (by omega) (by omega) (RepV.below HB4.out HV.out)).mono ?_
          rintro e w4 ⟨rfl, hb4⟩
          have HO4 := Lib.hid (own_later HO3.out hb4)
          have HB5 := Lib.hid (HB4.out.trans (hb4.mono HB4.out.size))
          clear x0 x1 x2 x3 hb4 HO3 HB4
          have hes := encs_take l k hlt
          by_cases hz : l[k].chk = 0
          · have HL5 := Lib.hid (HL.out.below HB5.out)
            rw [out_zero hz] at HO4 ⊢
            rw [hz]
            have HLE := Lib.hid (encs_take_le l (k := k + 1))
            have HES := Lib.hid hes
            have HGN : Hid (∀ v ∈ l.take (k + 1), v.chk = 0) := by
              unfold Hid
              rw [List.take_succ_eq_append_getElem hlt]
              intro v hv
              rcases List.mem_append.1 hv with h | h
              · exact HG.out v h
              · rw [List.mem_singleton.1 h]; exact hz
            have hsum : (V.encs (l.take k)).length + l[k].enc.length ≤ 844000 := by
              have h1 := HLE.out
              rw [HES.out, List.length_append] at h1
              omega
            clear hes hz HE hE HV g0 g1 g2 g3
            generalize l[k].enc = bs at *
            generalize V.encs (l.take k) = bs0 at *
            have K3 : Hid (bs0.length + bs.length ≤ maxLen) := maxLen_le (by omega)
            have K4 : Hid ((bs0.length + bs.length) * 1 ≤ 140737488355328) := by unfold Hid; omega
            have hsz : w.heap.size ≤ w4.heap.size := HL5.out.by_.size
            go_wp2_with (at_builtin; refine wpList_app rfl _ _ rfl elemB w.heap.size _ _ _ rfl HL5.out.own3 _ _ _ rfl (Source.own HO4.out (byteV_one _)) (.inl rfl) K3.out K4.out hsz ?_; intro v5 w5 hg5)
            have HL6 := Lib.hid (HL5.out.app3 hg5)
            have HB6 := Lib.hid hg5.by_
            clear hg5 HL5 HO4 K3 K4 hsz
            refine (int_any _ _).mono ?_
            rintro e w6 ⟨rfl, hb6⟩
            have HL7 := Lib.hid ((HL6.out.below hb6).below ((Below.refl _ _).alloc (Nat.le_refl _) (.cells #[.int .i64 1, .int .i64 0, .string ⟨#[]⟩, .slice none 0 0] 24)))
            clear hb6 HL6
            have K3 : Hid (k + 1 ≤ maxLen) := maxLen_le (by omega)
            have K4 : Hid ((k + 1) * 56 ≤ 140737488355328) := by unfold Hid; omega
            have hsz := HL7.out.by_.size
            have HSZ := Lib.hid hsz
            clear hsz
            have HCN := Lib.hid (World.news_of_block (w := w6.alloc (.cells #[.int .i64 1, .int .i64 0, .string ⟨#[]⟩, .slice none 0 0] 24)) (heap_alloc_new w6 (.cells #[.int .i64 1, .int .i64 0, .string ⟨#[]⟩, .slice none 0 0] 24)))
            go_wp2_with (at_builtin; refine wpList_app rfl _ _ rfl elemV w.heap.size _ _ _ rfl HL7.out.own4 _ 1 zc4 rfl (Source.cells _ _ _ _ rfl rfl HCN.out zc4_one) (.inl rfl) K3.out K4.out HSZ.out ?_; intro v7 w7 hg7)
            have HL8 := Lib.hid (HL7.out.app4 hg7)
            clear hg7 HL7 K3 K4 HSZ HCN HB6
            refine ⟨⟨k + 1, by omega, by go_num, ?_, HGN.out, ?_⟩, by simp [intOf]; omega⟩
            · rw [HES.out, List.length_append]; go_num
            · rw [HES.out]; exact HL8.out
          · have HBD := Lib.hid (lv_bad (List.getElem_mem hlt) hz)
            have HBR := Lib.hid (HL.out.by_.trans (HB5.out.mono HL.out.by_.size))
            generalize l[k].out = bs at *
            generalize l[k].chk = ck at *
            clear hes HE hE HV g0 g1 g2 g3
            go_wp2_with fail
            refine (list_any _ _ _ _).mono ?_
            rintro e w5 ⟨rfl, hb5⟩
            have HB7 := Lib.hid (HBR.out.trans (hb5.mono HBR.out.size))
            clear hb5
            go_wp2_with fail
            refine (encode_any (lv l) _ _ HS.out.1 HS.out.2.1 (lv_rep (RepL.below HB7.out HR.out) hl hc)).mono ?_
            intro e w6 h6
            obtain ⟨a6, cap6, rfl, hby6, hc6, hl6, hb6⟩ := h6.bytes
            have HB8 := Lib.hid (HB7.out.trans (hb6.mono HB7.out.size))
            have hbd := HBD.out
            clear h6 hb6 hby6 hc6 hl6
            generalize (lv l).out = bs6 at *
            generalize (lv l).chk = ck6 at *
            go_wp2
            go_ret
            exact ⟨by simp [hbd], HB8.out⟩
        · have hkl : k = l.length := by omega
          subst hkl
          have HB7 := Lib.hid HL.out.by_
          go_wp2_with fail
          refine (list_any _ _ _ _).mono ?_
          rintro e w5 ⟨rfl, hb5⟩
          have HL5 := Lib.hid (HL.out.below hb5)
          clear hb5 HL HB7
          go_wp2_with fail
          refine (encode_any (lv l) _ _ HS.out.1 HS.out.2.1 (lv_rep (RepL.below HL5.out.by_ HR.out) hl hc)).mono ?_
          intro e w6 h6
          obtain ⟨a6, cap6, rfl, hby6, hc6, hl6, hb6⟩ := h6.bytes
          have HL6 := Lib.hid (HL5.out.below hb6)
          clear h6 hb6 HL5
          have hgd := lv_good (l := l) (by have := HG.out; rwa [List.take_length] at this)
          rw [List.take_length] at HL6
          by_cases hz : (lv l).chk = 0
          · obtain ⟨a3, cap3, rfl⟩ := own_form HL6.out.own3
            obtain ⟨a4, cap4, rfl⟩ := own_form HL6.out.own4
            have hzr := own_repFL (F := fun _ => True) (G := fun _ => True) (l := List.replicate l.length zv) (by simpa using HL6.out.own4) (zcs_cells (fun _ => True) w6 l.length) (fun _ _ _ => trivial) (fun _ _ => trivial)
            have HZR := Lib.hid hzr.1.rep
            have hz4 := hzr.2
            rw [List.length_replicate] at hz4
            have HZS := Lib.hid (zl_small l.length h20)
            have hX := lv_out hz
            have hM := num_le l.length
            have hM' := num_pos l.length
            have hE := HS.out.2.2
            obtain ⟨X, hXe⟩ : ∃ X, (lv l).out.length = X := ⟨_, rfl⟩
            rw [hXe, hz]
            rw [hXe] at hX hc6
            have HD := Lib.hid (lv_drop hz)
            have HXE := Lib.hid hXe
            obtain ⟨A, hA⟩ : ∃ A, 1 + (num l.length).length = A := ⟨_, rfl⟩
            rw [hA] at hX HD
            obtain ⟨E, hEe⟩ : ∃ E, (V.encs l).length = E := ⟨_, rfl⟩
            have HEE := Lib.hid hEe
            rw [hEe] at hE hX ⊢
            have hAt : (X : Int) - (E : Int) = (A : Int) := by omega
            have hA2 : 2 ≤ A := by omega
            have hA4 : A ≤ 11 := by omega
            have hA3 : A ≤ X := by omega
            have HA := Lib.hid hA
            have HX := Lib.hid hX
            clear hXe hEe hA hX hzr hz hgd hM hM'
            go_wp2_with fail
            refine (list_any _ _ _ _).mono ?_
            rintro e w7 ⟨rfl, hb7⟩
            have HL7 := Lib.hid (HL6.out.below hb7)
            have hby7 := hby6.below hb7
            have HZ7 := Lib.hid (RepL.below hb7 HZR.out)
            clear hb7 HL6 HZR hby6
            go_wp2_with fail
            refine (size_any (lv (List.replicate l.length zv)) _ _ HZS.out.1 HZS.out.2 (by have := lv_rep (cap := cap4) HZ7.out (by simpa using hz4) (by simpa using hc); rwa [List.length_replicate] at this)).mono ?_
            rintro e w8 ⟨rfl, hb8⟩
            have HL8 := Lib.hid (HL7.out.below hb8)
            have hby8 := hby7.below hb8
            clear hb8 HL7 hby7 HZ7 HZS
            rw [zl_out, zl_chk]
            obtain ⟨Y, hY⟩ : ∃ Y, 1 + (num l.length).length + 2 * l.length = Y := ⟨_, rfl⟩
            rw [hY]
            have hY' : Y = A + 2 * l.length := by rw [← hY, HA.out]
            have hXx := HX.out
            have e3 : IntKind.i64.wrap ((Y : Int) - 2 * (l.length : Int) + (E : Int)) = (X : Int) := by rw [IntWalk.i64_in _ (by omega)]; omega
            have e2 : IntKind.i64.wrap ((Y : Int) - 2 * (l.length : Int)) = (Y : Int) - 2 * (l.length : Int) := IntWalk.i64_in _ (by clear e3; omega)
            have e1 : IntKind.i64.wrap (2 * (l.length : Int)) = 2 * (l.length : Int) := IntWalk.i64_in _ (by clear e3 e2; omega)
            have hxa : X - A = E := by clear e3 e2 e1; omega
            have i2 : decide ((2 : Int) ≤ (A : Int)) = true := by clear e3 e2 e1; simp; omega
            have i3 : decide (2 ≤ A) = true := by clear e3 e2 e1; simp; omega
            have r3 : ∀ p : Later w8, (convert 27 9 (.slice (if cap6 = A then a6 else Option.map (fun x => x.add A) a6) (X - A) (cap6 - A))).run Try.prog p.W = .ok (.string ⟨(V.encs l).toArray⟩) p.W := fun p => by
              have := ((hby8.drop (by rw [HXE.out]; exact hc6) A).below p.by_).conv (cap6 - A)
              rw [HD.out, HEE.out, ← hxa] at this
              exact this
            have r4 : ∀ p : Later w8, (convert 27 9 (.slice a3 E cap3)).run Try.prog p.W = .ok (.string ⟨(V.encs l).toArray⟩) p.W := fun p => by
              obtain ⟨_, _, hh, hb3, _, _⟩ := own_bytes HL8.out.own3
              injection hh with hh1 hh2 hh3
              subst hh1
              have := (hb3.below p.by_).conv cap3
              rw [HEE.out] at this
              exact this
            have hlen : (l.length : Int) = (l.length : Int) := rfl
            clear hby8 hxa hlen hY hY' hXx hl6 hz4 hE
            generalize V.encs l = bsE at *
            go_wp2_with fail
            refine wp_region_later (by kernel_rfl) (by kernel_rfl) ?_
            repeat (quiet_step (fail))
            refine wpQuiet_nil ?_
            intro _ hw'
            obtain ⟨⟨W9, hW9⟩, rfl⟩ := hw'
            have HB9 := Lib.hid (HL8.out.by_.trans (hW9.mono HL8.out.by_.size))
            go_wp2
            all_goals
              go_ret
              exact ⟨by simp, HB9.out⟩
          · have h2 : (lv l).chk = 2 := by omega
            rw [h2]
            clear hz hgd hby6 hc6 hl6
            generalize (lv l).out = bs6 at *
            go_wp2
            go_ret
            exact ⟨rfl, HL6.out.by_⟩
    · clear hf
      have h20' : decide (20 < l.length) = true := by simp; omega
      have h20'' : decide ((20 : Int) < (l.length : Int)) = true := by simp; omega
      go_wp2
      go_ret
      exact ⟨rfl, HB2.out⟩
end Go.Proofs.Ytedkoifbjmemdaa
