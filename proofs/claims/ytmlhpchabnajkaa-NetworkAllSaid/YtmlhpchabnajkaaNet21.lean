/- sane: the examples -/
import Derived.Test.YtmlhpchabnajkaaNet20
import Derived.Test.YtmlhpchabnajkaaNetSane
namespace Go.Proofs.Ytmlhpchabnajkaa
set_option linter.unusedSimpArgs false
set_option linter.unusedVariables false
open Go.RowKit
attribute [local go_sem ↓] Go.wp_at_zero Go.wp_at_succ
theorem NetRet.now {m : NetM} {er : Int} {w : World} {e : Ending} {w' : World} (h : NetRet (Now w) m er w e w') : ∃ qa qc aa ac, e = .returned (.tuple #[.agg #[.slice qa m.queue.length qc, .slice aa m.apart.length ac], .int .i64 er]) ∧ RNet (Now w') w' m [.slice qa m.queue.length qc, .slice aa m.apart.length ac] ∧ Below w.heap.size w w' := by
  obtain ⟨qa, qc, aa, ac, h1, h2, h3⟩ := h
  exact ⟨qa, qc, aa, ac, h1, good_net.keep (fun b h => h.2) (fun _ _ => rfl) h2, h3⟩
theorem DelRet.now {p : Pkt} {m : NetM} {er : Int} {w : World} {e : Ending} {w' : World} (h : DelRet (Now w) p m er w e w') : ∃ da dc qa qc aa ac, e = .returned (.tuple #[.agg #[.int .i64 p.src, .int .i64 p.dst, .slice da p.data.length dc], .agg #[.slice qa m.queue.length qc, .slice aa m.apart.length ac], .int .i64 er]) ∧
    RPk (Now w') w' p [.int .i64 p.src, .int .i64 p.dst, .slice da p.data.length dc] ∧ RNet (Now w') w' m [.slice qa m.queue.length qc, .slice aa m.apart.length ac] ∧ Below w.heap.size w w' := by
  obtain ⟨da, dc, qa, qc, aa, ac, h1, h0, h2, h3⟩ := h
  exact ⟨da, dc, qa, qc, aa, ac, h1, good_pk.keep (fun b h => h.2) (fun _ _ => rfl) h0, good_net.keep (fun b h => h.2) (fun _ _ => rfl) h2, h3⟩
theorem rpk13 {W : World} {g : Nat} (hb : Box W g #[.int .u8 7] 5) : RPk (Now W) W p13 [.int .i64 1, .int .i64 3, .slice (some ⟨g, 0, none⟩) 1 1] := by
  refine ⟨some ⟨g, 0, none⟩, 1, rfl, by unfold i64R; simp [p13], by unfold i64R; simp [p13], Nat.le_refl _, by simp [p13], fun i hi => ?_⟩
  have : i = 0 := by simp [p13] at hi; omega
  subst this
  exact ⟨g, 0, [.int .u8 7], rfl, hb.lt, rfl, fun j u hu => by
    cases j with
    | zero => cases hu; exact hb.cell 0 rfl
    | succ j => simp at hu⟩
set_option maxRecDepth 100000 in
set_option maxHeartbeats 9000000 in
theorem sane_any (w : World) : Calls Try.prog 9 #[] w (Gives (.bool true) w) := by
  unfold Gives
  go_enter Try.func9, Try.ntmps9
  go_wp2_with fail
  refine (nnew_any _).mono ?_
  rintro e v0 ⟨rfl, hb0⟩
  obtain ⟨W0, hW0⟩ : ∃ W, W = (v0.alloc (.cells #[.slice none 0 0, .slice none 0 0] 25)) := ⟨_, rfl⟩
  have HL0 : Hid (Below w.heap.size w W0) := by rw [hW0]; exact (Below.alloc hb0 (Nat.le_trans (Below.size hb0) (Nat.le_refl _)) _)
  have HV0 : Hid (Below v0.heap.size v0 W0) := by rw [hW0]; exact (Below.alloc (Below.refl v0.heap.size v0) (Below.size (Below.refl v0.heap.size v0)) _)
  have HT1 : Hid (Box W0 (v0.heap.size) #[.slice none 0 0, .slice none 0 0] 25) := by
    rw [hW0]
    have h := Box.new v0 #[.slice none 0 0, .slice none 0 0] 25
    simpa [Hid] using h
  go_upto_region 2 with (fail)
  rw [← hW0]
  clear hW0
  clear hb0
  have q10 := HT1.out.cell 0 rfl
  have q11 := HT1.out.cell 1 rfl
  have hx := deliver_any .nil 0 none 0 none 0 W0 (Now W0) (fun _ h => h) (rnet_nil _ _)
  rw [sane_del0.1, sane_del0.2.1, sane_del0.2.2] at hx
  go_wp2_with fail
  refine hx.mono ?_
  rintro e v1 h
  obtain ⟨da1, dc1, qa1, qc1, aa1, ac1, rfl, _, _, hb1⟩ := h.now
  clear h hx
  clear q10 q11
  obtain ⟨W1, hW1⟩ : ∃ W, W = ((v1.alloc (.cells #[.int .i64 Pkt.nil.src, .int .i64 Pkt.nil.dst, .slice da1 Pkt.nil.data.length dc1] 28)).alloc (.cells #[.slice qa1 NetM.nil.queue.length qc1, .slice aa1 NetM.nil.apart.length ac1] 25)) := ⟨_, rfl⟩
  have HL1 : Hid (Below W0.heap.size W0 W1) := by rw [hW1]; exact (Below.alloc (Below.alloc hb1 (Nat.le_trans (Below.size hb1) (Nat.le_refl _)) _) (Nat.le_trans (Below.size (Below.alloc hb1 (Nat.le_trans (Below.size hb1) (Nat.le_refl _)) _)) (Nat.le_refl _)) _)
  have HV1 : Hid (Below v1.heap.size v1 W1) := by rw [hW1]; exact (Below.alloc (Below.alloc (Below.refl v1.heap.size v1) (Below.size (Below.refl v1.heap.size v1)) _) (Below.size (Below.alloc (Below.refl v1.heap.size v1) (Below.size (Below.refl v1.heap.size v1)) _)) _)
  replace HT1 := Lib.hid (HT1.out.below HL1.out)
  go_upto_region 3 with (fail)
  rw [← hW1]
  clear hW1
  clear hb1
  have q10 := HT1.out.cell 0 rfl
  have q11 := HT1.out.cell 1 rfl
  have hx := send_any .nil ⟨3, 3, []⟩ none 0 none 0 none 0 W1 (Now W1) (fun _ h => h) (rnet_nil _ _) ⟨none, 0, rfl, by unfold i64R; simp, by unfold i64R; simp, Nat.le_refl _, by simp, RRow.nil _⟩
  rw [sane_send33.1, sane_send33.2] at hx
  go_wp2_with fail
  refine hx.mono ?_
  rintro e v2 h
  obtain ⟨qa2, qc2, aa2, ac2, rfl, hn2, hb2⟩ := h.now
  clear h hx
  clear q10 q11
  obtain ⟨W2, hW2⟩ : ∃ W, W = (v2.alloc (.cells #[.slice qa2 (NetM.nil).queue.length qc2, .slice aa2 (NetM.nil).apart.length ac2] 25)) := ⟨_, rfl⟩
  have HL2 : Hid (Below W1.heap.size W1 W2) := by rw [hW2]; exact (Below.alloc hb2 (Nat.le_trans (Below.size hb2) (Nat.le_refl _)) _)
  have HV2 : Hid (Below v2.heap.size v2 W2) := by rw [hW2]; exact (Below.alloc (Below.refl v2.heap.size v2) (Below.size (Below.refl v2.heap.size v2)) _)
  replace HT1 := Lib.hid (HT1.out.below HL2.out)
  go_upto_region 4 with (fail)
  rw [← hW2]
  clear hW2
  clear hb2
  have q10 := HT1.out.cell 0 rfl
  have q11 := HT1.out.cell 1 rfl
  have hx := cut_any .nil 2 2 true none 0 none 0 W2 (Now W2) (fun _ h => h) (rnet_nil _ _)
  rw [sane_cut22.1, sane_cut22.2] at hx
  go_wp2_with fail
  refine hx.mono ?_
  rintro e v3 h
  obtain ⟨qa3, qc3, aa3, ac3, rfl, hn3, hb3⟩ := h.now
  clear h hx
  clear q10 q11
  obtain ⟨W3, hW3⟩ : ∃ W, W = (v3.alloc (.cells #[.slice qa3 (NetM.nil).queue.length qc3, .slice aa3 (NetM.nil).apart.length ac3] 25)) := ⟨_, rfl⟩
  have HL3 : Hid (Below W2.heap.size W2 W3) := by rw [hW3]; exact (Below.alloc hb3 (Nat.le_trans (Below.size hb3) (Nat.le_refl _)) _)
  have HV3 : Hid (Below v3.heap.size v3 W3) := by rw [hW3]; exact (Below.alloc (Below.refl v3.heap.size v3) (Below.size (Below.refl v3.heap.size v3)) _)
  replace HT1 := Lib.hid (HT1.out.below HL3.out)
  go_upto_region 5 with (fail)
  rw [← hW3]
  clear hW3
  clear hb3
  obtain ⟨W4, hW4⟩ : ∃ W, W = ((W3.alloc (.cells #[.int .u8 7] 5)).alloc (.cells #[.int .i64 1, .int .i64 3, .slice (some ⟨W3.heap.size, 0, none⟩) 1 1] 28)) := ⟨_, rfl⟩
  have HL4 : Hid (Below W3.heap.size W3 W4) := by rw [hW4]; exact (Below.alloc (Below.alloc (Below.refl W3.heap.size W3) (Nat.le_trans (Below.size (Below.refl W3.heap.size W3)) (Nat.le_refl _)) _) (Nat.le_trans (Below.size (Below.alloc (Below.refl W3.heap.size W3) (Nat.le_trans (Below.size (Below.refl W3.heap.size W3)) (Nat.le_refl _)) _)) (Nat.le_refl _)) _)
  have HV4 : Hid (Below W3.heap.size W3 W4) := by rw [hW4]; exact (Below.alloc (Below.alloc (Below.refl W3.heap.size W3) (Below.size (Below.refl W3.heap.size W3)) _) (Below.size (Below.alloc (Below.refl W3.heap.size W3) (Below.size (Below.refl W3.heap.size W3)) _)) _)
  have HTb : Hid (Box W4 (W3.heap.size) #[.int .u8 7] 5) := by
    rw [hW4]
    have h := Box.new W3 #[.int .u8 7] 5
    have h := h.alloc (.cells #[.int .i64 1, .int .i64 3, .slice (some ⟨W3.heap.size, 0, none⟩) 1 1] 28)
    simpa [Hid] using h
  have HT9 : Hid (Box W4 (W3.heap.size + 1) #[.int .i64 1, .int .i64 3, .slice (some ⟨W3.heap.size, 0, none⟩) 1 1] 28) := by
    rw [hW4]
    have h := Box.new (W3.alloc (.cells #[.int .u8 7] 5)) #[.int .i64 1, .int .i64 3, .slice (some ⟨W3.heap.size, 0, none⟩) 1 1] 28
    simpa [Hid] using h
  replace HT1 := Lib.hid (HT1.out.below HL4.out)
  go_upto_region 6 with (fail)
  rw [← hW4]
  clear hW4
  have FP : Hid (RPk (Now W4) W4 p13 [.int .i64 1, .int .i64 3, .slice (some ⟨W3.heap.size, 0, none⟩) 1 1]) := rpk13 HTb.out
  have q10 := HT1.out.cell 0 rfl
  have q11 := HT1.out.cell 1 rfl
  have q90 := HT9.out.cell 0 rfl
  have q91 := HT9.out.cell 1 rfl
  have q92 := HT9.out.cell 2 rfl
  have hx := send_any .nil p13 none 0 none 0 (some ⟨W3.heap.size, 0, none⟩) 1 W4 (Now W4) (fun _ h => h) (rnet_nil _ _) FP.out
  rw [sane_send.1, sane_send.2] at hx
  go_wp2_with fail
  refine hx.mono ?_
  rintro e v5 h
  obtain ⟨qa5, qc5, aa5, ac5, rfl, hn5, hb5⟩ := h.now
  clear h hx
  clear q10 q11 q90 q91 q92
  obtain ⟨W5, hW5⟩ : ∃ W, W = (v5.alloc (.cells #[.slice qa5 (net1).queue.length qc5, .slice aa5 (net1).apart.length ac5] 25)) := ⟨_, rfl⟩
  have HL5 : Hid (Below W4.heap.size W4 W5) := by rw [hW5]; exact (Below.alloc hb5 (Nat.le_trans (Below.size hb5) (Nat.le_refl _)) _)
  have HV5 : Hid (Below v5.heap.size v5 W5) := by rw [hW5]; exact (Below.alloc (Below.refl v5.heap.size v5) (Below.size (Below.refl v5.heap.size v5)) _)
  have HT10 : Hid (Box W5 (v5.heap.size) #[.slice qa5 (net1).queue.length qc5, .slice aa5 (net1).apart.length ac5] 25) := by
    rw [hW5]
    have h := Box.new v5 #[.slice qa5 (net1).queue.length qc5, .slice aa5 (net1).apart.length ac5] 25
    simpa [Hid] using h
  replace HT1 := Lib.hid (HT1.out.below HL5.out)
  replace HTb := Lib.hid (HTb.out.below HL5.out)
  replace HT9 := Lib.hid (HT9.out.below HL5.out)
  replace FP := Lib.hid (good_pk.below HL5.out FP.out)
  go_upto_region 7 with (fail)
  rw [← hW5]
  clear hW5
  clear hb5
  have F5 := Lib.hid (good_net.below HV5.out hn5)
  clear hn5
  have q100 := HT10.out.cell 0 rfl
  have q101 := HT10.out.cell 1 rfl
  have hx := repeat_any net1 0 qa5 qc5 aa5 ac5 W5 (Now W5) (fun _ h => h) F5.out
  rw [sane_rep.1, sane_rep.2] at hx
  go_wp2_with fail
  refine hx.mono ?_
  rintro e v6 h
  obtain ⟨qa6, qc6, aa6, ac6, rfl, hn6, hb6⟩ := h.now
  clear h hx
  clear q100 q101
  obtain ⟨W6, hW6⟩ : ∃ W, W = (v6.alloc (.cells #[.slice qa6 (net2).queue.length qc6, .slice aa6 (net2).apart.length ac6] 25)) := ⟨_, rfl⟩
  have HL6 : Hid (Below W5.heap.size W5 W6) := by rw [hW6]; exact (Below.alloc hb6 (Nat.le_trans (Below.size hb6) (Nat.le_refl _)) _)
  have HV6 : Hid (Below v6.heap.size v6 W6) := by rw [hW6]; exact (Below.alloc (Below.refl v6.heap.size v6) (Below.size (Below.refl v6.heap.size v6)) _)
  have HT12 : Hid (Box W6 (v6.heap.size) #[.slice qa6 (net2).queue.length qc6, .slice aa6 (net2).apart.length ac6] 25) := by
    rw [hW6]
    have h := Box.new v6 #[.slice qa6 (net2).queue.length qc6, .slice aa6 (net2).apart.length ac6] 25
    simpa [Hid] using h
  replace HT1 := Lib.hid (HT1.out.below HL6.out)
  replace HTb := Lib.hid (HTb.out.below HL6.out)
  replace HT9 := Lib.hid (HT9.out.below HL6.out)
  replace HT10 := Lib.hid (HT10.out.below HL6.out)
  replace FP := Lib.hid (good_pk.below HL6.out FP.out)
  replace F5 := Lib.hid (good_net.below HL6.out F5.out)
  go_upto_region 8 with (fail)
  rw [← hW6]
  clear hW6
  clear hb6
  have F6 := Lib.hid (good_net.below HV6.out hn6)
  clear hn6
  have q120 := HT12.out.cell 0 rfl
  have q121 := HT12.out.cell 1 rfl
  have hx := cut_any net2 3 1 true qa6 qc6 aa6 ac6 W6 (Now W6) (fun _ h => h) F6.out
  rw [sane_cut.1, sane_cut.2] at hx
  go_wp2_with fail
  refine hx.mono ?_
  rintro e v7 h
  obtain ⟨qa7, qc7, aa7, ac7, rfl, hn7, hb7⟩ := h.now
  clear h hx
  clear q120 q121
  obtain ⟨W7, hW7⟩ : ∃ W, W = (v7.alloc (.cells #[.slice qa7 (net3).queue.length qc7, .slice aa7 (net3).apart.length ac7] 25)) := ⟨_, rfl⟩
  have HL7 : Hid (Below W6.heap.size W6 W7) := by rw [hW7]; exact (Below.alloc hb7 (Nat.le_trans (Below.size hb7) (Nat.le_refl _)) _)
  have HV7 : Hid (Below v7.heap.size v7 W7) := by rw [hW7]; exact (Below.alloc (Below.refl v7.heap.size v7) (Below.size (Below.refl v7.heap.size v7)) _)
  have HT14 : Hid (Box W7 (v7.heap.size) #[.slice qa7 (net3).queue.length qc7, .slice aa7 (net3).apart.length ac7] 25) := by
    rw [hW7]
    have h := Box.new v7 #[.slice qa7 (net3).queue.length qc7, .slice aa7 (net3).apart.length ac7] 25
    simpa [Hid] using h
  replace HT1 := Lib.hid (HT1.out.below HL7.out)
  replace HTb := Lib.hid (HTb.out.below HL7.out)
  replace HT9 := Lib.hid (HT9.out.below HL7.out)
  replace HT10 := Lib.hid (HT10.out.below HL7.out)
  replace HT12 := Lib.hid (HT12.out.below HL7.out)
  replace FP := Lib.hid (good_pk.below HL7.out FP.out)
  replace F5 := Lib.hid (good_net.below HL7.out F5.out)
  replace F6 := Lib.hid (good_net.below HL7.out F6.out)
  go_upto_region 9 with (fail)
  rw [← hW7]
  clear hW7
  clear hb7
  have F7 := Lib.hid (good_net.below HV7.out hn7)
  clear hn7
  have q120 := HT12.out.cell 0 rfl
  have q121 := HT12.out.cell 1 rfl
  have hx := deliver_any net2 0 qa6 qc6 aa6 ac6 W7 (Now W7) (fun _ h => h) F6.out
  rw [sane_del1.1, sane_del1.2.1, sane_del1.2.2] at hx
  go_wp2_with fail
  refine hx.mono ?_
  rintro e v8 h
  obtain ⟨da8, dc8, qa8, qc8, aa8, ac8, rfl, hp8, hn8, hb8⟩ := h.now
  clear h hx
  clear q120 q121
  obtain ⟨W8, hW8⟩ : ∃ W, W = ((v8.alloc (.cells #[.int .i64 (p13).src, .int .i64 (p13).dst, .slice da8 (p13).data.length dc8] 28)).alloc (.cells #[.slice qa8 (net1).queue.length qc8, .slice aa8 (net1).apart.length ac8] 25)) := ⟨_, rfl⟩
  have HL8 : Hid (Below W7.heap.size W7 W8) := by rw [hW8]; exact (Below.alloc (Below.alloc hb8 (Nat.le_trans (Below.size hb8) (Nat.le_refl _)) _) (Nat.le_trans (Below.size (Below.alloc hb8 (Nat.le_trans (Below.size hb8) (Nat.le_refl _)) _)) (Nat.le_refl _)) _)
  have HV8 : Hid (Below v8.heap.size v8 W8) := by rw [hW8]; exact (Below.alloc (Below.alloc (Below.refl v8.heap.size v8) (Below.size (Below.refl v8.heap.size v8)) _) (Below.size (Below.alloc (Below.refl v8.heap.size v8) (Below.size (Below.refl v8.heap.size v8)) _)) _)
  have HT16 : Hid (Box W8 (v8.heap.size) #[.int .i64 (p13).src, .int .i64 (p13).dst, .slice da8 (p13).data.length dc8] 28) := by
    rw [hW8]
    have h := Box.new v8 #[.int .i64 (p13).src, .int .i64 (p13).dst, .slice da8 (p13).data.length dc8] 28
    have h := h.alloc (.cells #[.slice qa8 (net1).queue.length qc8, .slice aa8 (net1).apart.length ac8] 25)
    simpa [Hid] using h
  have HT17 : Hid (Box W8 (v8.heap.size + 1) #[.slice qa8 (net1).queue.length qc8, .slice aa8 (net1).apart.length ac8] 25) := by
    rw [hW8]
    have h := Box.new (v8.alloc (.cells #[.int .i64 (p13).src, .int .i64 (p13).dst, .slice da8 (p13).data.length dc8] 28)) #[.slice qa8 (net1).queue.length qc8, .slice aa8 (net1).apart.length ac8] 25
    simpa [Hid] using h
  replace HT1 := Lib.hid (HT1.out.below HL8.out)
  replace HTb := Lib.hid (HTb.out.below HL8.out)
  replace HT9 := Lib.hid (HT9.out.below HL8.out)
  replace HT10 := Lib.hid (HT10.out.below HL8.out)
  replace HT12 := Lib.hid (HT12.out.below HL8.out)
  replace HT14 := Lib.hid (HT14.out.below HL8.out)
  replace FP := Lib.hid (good_pk.below HL8.out FP.out)
  replace F5 := Lib.hid (good_net.below HL8.out F5.out)
  replace F6 := Lib.hid (good_net.below HL8.out F6.out)
  replace F7 := Lib.hid (good_net.below HL8.out F7.out)
  go_upto_region 10 with (fail)
  rw [← hW8]
  clear hW8
  clear hb8
  have F8 := Lib.hid (good_net.below HV8.out hn8)
  clear hn8
  have G8 := Lib.hid (good_pk.below HV8.out hp8)
  clear hp8
  have q140 := HT14.out.cell 0 rfl
  have q141 := HT14.out.cell 1 rfl
  have hx := deliver_any net3 1 qa7 qc7 aa7 ac7 W8 (Now W8) (fun _ h => h) F7.out
  rw [sane_del2.1, sane_del2.2.1, sane_del2.2.2] at hx
  go_wp2_with fail
  refine hx.mono ?_
  rintro e v9 h
  obtain ⟨da9, dc9, qa9, qc9, aa9, ac9, rfl, hp9, hn9, hb9⟩ := h.now
  clear h hx
  clear q140 q141
  obtain ⟨W9, hW9⟩ : ∃ W, W = ((v9.alloc (.cells #[.int .i64 (Pkt.nil).src, .int .i64 (Pkt.nil).dst, .slice da9 (Pkt.nil).data.length dc9] 28)).alloc (.cells #[.slice qa9 (net4).queue.length qc9, .slice aa9 (net4).apart.length ac9] 25)) := ⟨_, rfl⟩
  have HL9 : Hid (Below W8.heap.size W8 W9) := by rw [hW9]; exact (Below.alloc (Below.alloc hb9 (Nat.le_trans (Below.size hb9) (Nat.le_refl _)) _) (Nat.le_trans (Below.size (Below.alloc hb9 (Nat.le_trans (Below.size hb9) (Nat.le_refl _)) _)) (Nat.le_refl _)) _)
  have HV9 : Hid (Below v9.heap.size v9 W9) := by rw [hW9]; exact (Below.alloc (Below.alloc (Below.refl v9.heap.size v9) (Below.size (Below.refl v9.heap.size v9)) _) (Below.size (Below.alloc (Below.refl v9.heap.size v9) (Below.size (Below.refl v9.heap.size v9)) _)) _)
  have HT19 : Hid (Box W9 (v9.heap.size) #[.int .i64 (Pkt.nil).src, .int .i64 (Pkt.nil).dst, .slice da9 (Pkt.nil).data.length dc9] 28) := by
    rw [hW9]
    have h := Box.new v9 #[.int .i64 (Pkt.nil).src, .int .i64 (Pkt.nil).dst, .slice da9 (Pkt.nil).data.length dc9] 28
    have h := h.alloc (.cells #[.slice qa9 (net4).queue.length qc9, .slice aa9 (net4).apart.length ac9] 25)
    simpa [Hid] using h
  have HT20 : Hid (Box W9 (v9.heap.size + 1) #[.slice qa9 (net4).queue.length qc9, .slice aa9 (net4).apart.length ac9] 25) := by
    rw [hW9]
    have h := Box.new (v9.alloc (.cells #[.int .i64 (Pkt.nil).src, .int .i64 (Pkt.nil).dst, .slice da9 (Pkt.nil).data.length dc9] 28)) #[.slice qa9 (net4).queue.length qc9, .slice aa9 (net4).apart.length ac9] 25
    simpa [Hid] using h
  replace HT1 := Lib.hid (HT1.out.below HL9.out)
  replace HTb := Lib.hid (HTb.out.below HL9.out)
  replace HT9 := Lib.hid (HT9.out.below HL9.out)
  replace HT10 := Lib.hid (HT10.out.below HL9.out)
  replace HT12 := Lib.hid (HT12.out.below HL9.out)
  replace HT14 := Lib.hid (HT14.out.below HL9.out)
  replace HT16 := Lib.hid (HT16.out.below HL9.out)
  replace HT17 := Lib.hid (HT17.out.below HL9.out)
  replace FP := Lib.hid (good_pk.below HL9.out FP.out)
  replace F5 := Lib.hid (good_net.below HL9.out F5.out)
  replace F6 := Lib.hid (good_net.below HL9.out F6.out)
  replace F7 := Lib.hid (good_net.below HL9.out F7.out)
  replace F8 := Lib.hid (good_net.below HL9.out F8.out)
  replace G8 := Lib.hid (good_pk.below HL9.out G8.out)
  go_upto_region 11 with (fail)
  rw [← hW9]
  clear hW9
  clear hb9
  have G9 := Lib.hid (good_pk.below HV9.out hp9)
  clear hp9 hn9
  have q10 := HT1.out.cell 0 rfl
  have q11 := HT1.out.cell 1 rfl
  have q90 := HT9.out.cell 0 rfl
  have q91 := HT9.out.cell 1 rfl
  have q92 := HT9.out.cell 2 rfl
  have q100 := HT10.out.cell 0 rfl
  have q101 := HT10.out.cell 1 rfl
  have q140 := HT14.out.cell 0 rfl
  have q141 := HT14.out.cell 1 rfl
  have q160 := HT16.out.cell 0 rfl
  have q161 := HT16.out.cell 1 rfl
  have q162 := HT16.out.cell 2 rfl
  have q170 := HT17.out.cell 0 rfl
  have q171 := HT17.out.cell 1 rfl
  have q190 := HT19.out.cell 0 rfl
  have q191 := HT19.out.cell 1 rfl
  have q192 := HT19.out.cell 2 rfl
  have hx := check_any .nil none 0 none 0 W9 (rnet_nil _ _)
  rw [sane_chk] at hx
  clear hx
  have hx := check_any .nil none 0 none 0 W9 (rnet_nil _ _)
  rw [sane_chk] at hx
  go_wp2_with fail
  refine hx.mono ?_
  rintro e w10 ⟨rfl, hb10⟩
  clear hx
  have HL10 := Lib.hid hb10
  clear q10 q11 q90 q91 q92 q100 q101 q140 q141 q160 q161 q162 q170 q171 q190 q191 q192
  replace HT1 := Lib.hid (HT1.out.below hb10)
  replace HTb := Lib.hid (HTb.out.below hb10)
  replace HT9 := Lib.hid (HT9.out.below hb10)
  replace HT10 := Lib.hid (HT10.out.below hb10)
  replace HT12 := Lib.hid (HT12.out.below hb10)
  replace HT14 := Lib.hid (HT14.out.below hb10)
  replace HT16 := Lib.hid (HT16.out.below hb10)
  replace HT17 := Lib.hid (HT17.out.below hb10)
  replace HT19 := Lib.hid (HT19.out.below hb10)
  replace HT20 := Lib.hid (HT20.out.below hb10)
  replace FP := Lib.hid (good_pk.below hb10 FP.out)
  replace F5 := Lib.hid (good_net.below hb10 F5.out)
  replace F6 := Lib.hid (good_net.below hb10 F6.out)
  replace F7 := Lib.hid (good_net.below hb10 F7.out)
  replace F8 := Lib.hid (good_net.below hb10 F8.out)
  replace G8 := Lib.hid (good_pk.below hb10 G8.out)
  replace G9 := Lib.hid (good_pk.below hb10 G9.out)
  clear hb10
  have q10 := HT1.out.cell 0 rfl
  have q11 := HT1.out.cell 1 rfl
  have q90 := HT9.out.cell 0 rfl
  have q91 := HT9.out.cell 1 rfl
  have q92 := HT9.out.cell 2 rfl
  have q100 := HT10.out.cell 0 rfl
  have q101 := HT10.out.cell 1 rfl
  have q140 := HT14.out.cell 0 rfl
  have q141 := HT14.out.cell 1 rfl
  have q160 := HT16.out.cell 0 rfl
  have q161 := HT16.out.cell 1 rfl
  have q162 := HT16.out.cell 2 rfl
  have q170 := HT17.out.cell 0 rfl
  have q171 := HT17.out.cell 1 rfl
  have q190 := HT19.out.cell 0 rfl
  have q191 := HT19.out.cell 1 rfl
  have q192 := HT19.out.cell 2 rfl
  obtain ⟨_, _, e, _, _, _, _, rowP⟩ := FP.out
  cases e
  obtain ⟨_, _, e, _, _, _, _, rowG8⟩ := G8.out
  cases e
  skip
  have hx := samePkt_any p13 p13 (some ⟨W3.heap.size, 0, none⟩) 1 da8 dc8 w10 rowP rowG8
  rw [sane_same.1] at hx
  go_wp2_with fail
  refine hx.mono ?_
  rintro e w11 ⟨rfl, hb11⟩
  clear hx
  have HL11 := Lib.hid hb11
  clear q10 q11 q90 q91 q92 q100 q101 q140 q141 q160 q161 q162 q170 q171 q190 q191 q192
  replace HT1 := Lib.hid (HT1.out.below hb11)
  replace HTb := Lib.hid (HTb.out.below hb11)
  replace HT9 := Lib.hid (HT9.out.below hb11)
  replace HT10 := Lib.hid (HT10.out.below hb11)
  replace HT12 := Lib.hid (HT12.out.below hb11)
  replace HT14 := Lib.hid (HT14.out.below hb11)
  replace HT16 := Lib.hid (HT16.out.below hb11)
  replace HT17 := Lib.hid (HT17.out.below hb11)
  replace HT19 := Lib.hid (HT19.out.below hb11)
  replace HT20 := Lib.hid (HT20.out.below hb11)
  replace FP := Lib.hid (good_pk.below hb11 FP.out)
  replace F5 := Lib.hid (good_net.below hb11 F5.out)
  replace F6 := Lib.hid (good_net.below hb11 F6.out)
  replace F7 := Lib.hid (good_net.below hb11 F7.out)
  replace F8 := Lib.hid (good_net.below hb11 F8.out)
  replace G8 := Lib.hid (good_pk.below hb11 G8.out)
  replace G9 := Lib.hid (good_pk.below hb11 G9.out)
  clear hb11
  have q100 := HT10.out.cell 0 rfl
  have q101 := HT10.out.cell 1 rfl
  have q140 := HT14.out.cell 0 rfl
  have q141 := HT14.out.cell 1 rfl
  have q170 := HT17.out.cell 0 rfl
  have q171 := HT17.out.cell 1 rfl
  have q190 := HT19.out.cell 0 rfl
  have q191 := HT19.out.cell 1 rfl
  have q192 := HT19.out.cell 2 rfl
  clear rowP rowG8
  obtain ⟨_, _, e, _, _, _, _, rowG9⟩ := G9.out
  cases e
  have hx := samePkt_any .nil .nil da9 dc9 none 0 w11 rowG9 (RRow.nil _)
  rw [sane_same.2.1] at hx
  go_wp2_with fail
  refine hx.mono ?_
  rintro e w12 ⟨rfl, hb12⟩
  clear hx
  have HL12 := Lib.hid hb12
  clear q100 q101 q140 q141 q170 q171 q190 q191 q192
  replace HT1 := Lib.hid (HT1.out.below hb12)
  replace HTb := Lib.hid (HTb.out.below hb12)
  replace HT9 := Lib.hid (HT9.out.below hb12)
  replace HT10 := Lib.hid (HT10.out.below hb12)
  replace HT12 := Lib.hid (HT12.out.below hb12)
  replace HT14 := Lib.hid (HT14.out.below hb12)
  replace HT16 := Lib.hid (HT16.out.below hb12)
  replace HT17 := Lib.hid (HT17.out.below hb12)
  replace HT19 := Lib.hid (HT19.out.below hb12)
  replace HT20 := Lib.hid (HT20.out.below hb12)
  replace FP := Lib.hid (good_pk.below hb12 FP.out)
  replace F5 := Lib.hid (good_net.below hb12 F5.out)
  replace F6 := Lib.hid (good_net.below hb12 F6.out)
  replace F7 := Lib.hid (good_net.below hb12 F7.out)
  replace F8 := Lib.hid (good_net.below hb12 F8.out)
  replace G8 := Lib.hid (good_pk.below hb12 G8.out)
  replace G9 := Lib.hid (good_pk.below hb12 G9.out)
  clear hb12
  have q100 := HT10.out.cell 0 rfl
  have q101 := HT10.out.cell 1 rfl
  have q140 := HT14.out.cell 0 rfl
  have q141 := HT14.out.cell 1 rfl
  have q170 := HT17.out.cell 0 rfl
  have q171 := HT17.out.cell 1 rfl
  clear rowG9
  have hx := same_any net1 net1 qa8 qc8 aa8 ac8 qa5 qc5 aa5 ac5 w12 F8.out F5.out
  rw [sane_same.2.2] at hx
  go_wp2_with fail
  refine hx.mono ?_
  rintro e w13 ⟨rfl, hb13⟩
  clear hx
  have HL13 := Lib.hid hb13
  clear q100 q101 q140 q141 q170 q171
  replace HT1 := Lib.hid (HT1.out.below hb13)
  replace HTb := Lib.hid (HTb.out.below hb13)
  replace HT9 := Lib.hid (HT9.out.below hb13)
  replace HT10 := Lib.hid (HT10.out.below hb13)
  replace HT12 := Lib.hid (HT12.out.below hb13)
  replace HT14 := Lib.hid (HT14.out.below hb13)
  replace HT16 := Lib.hid (HT16.out.below hb13)
  replace HT17 := Lib.hid (HT17.out.below hb13)
  replace HT19 := Lib.hid (HT19.out.below hb13)
  replace HT20 := Lib.hid (HT20.out.below hb13)
  replace FP := Lib.hid (good_pk.below hb13 FP.out)
  replace F5 := Lib.hid (good_net.below hb13 F5.out)
  replace F6 := Lib.hid (good_net.below hb13 F6.out)
  replace F7 := Lib.hid (good_net.below hb13 F7.out)
  replace F8 := Lib.hid (good_net.below hb13 F8.out)
  replace G8 := Lib.hid (good_pk.below hb13 G8.out)
  replace G9 := Lib.hid (good_pk.below hb13 G9.out)
  clear hb13
  have q140 := HT14.out.cell 0 rfl
  have q141 := HT14.out.cell 1 rfl
  clear q140 q141
  obtain ⟨_, _, _, _, e, _, _, rQ7, _, _, rA7⟩ := F7.out
  cases e
  obtain ⟨bA, oA, rfl, c70, c71, _, _⟩ := RPr.at rA7 0 (by decide)
  have q140 : w13.cell? ⟨v7.heap.size, 0, none⟩ = some (.slice qa7 2 qc7) := HT14.out.cell 0 rfl
  have q141 : w13.cell? ⟨v7.heap.size, 1, none⟩ = some (.slice (some ⟨bA, oA, none⟩) 1 ac7) := HT14.out.cell 1 rfl
  have c70' : w13.cell? ⟨bA, oA, none⟩ = some (.int .i64 1) := c70
  have c71' : w13.cell? ⟨bA, oA + 1, none⟩ = some (.int .i64 3) := c71
  clear c70 c71 rQ7 rA7
  have eqp := fun W => eql_pair 1 3 1 3 W
  go_wp2_with fail
  go_ret
  have hB := HL0.out
  replace hB := hB.trans (HL1.out.mono hB.size)
  replace hB := hB.trans (HL2.out.mono hB.size)
  replace hB := hB.trans (HL3.out.mono hB.size)
  replace hB := hB.trans (HL4.out.mono hB.size)
  replace hB := hB.trans (HL5.out.mono hB.size)
  replace hB := hB.trans (HL6.out.mono hB.size)
  replace hB := hB.trans (HL7.out.mono hB.size)
  replace hB := hB.trans (HL8.out.mono hB.size)
  replace hB := hB.trans (HL9.out.mono hB.size)
  replace hB := hB.trans (HL10.out.mono hB.size)
  replace hB := hB.trans (HL11.out.mono hB.size)
  replace hB := hB.trans (HL12.out.mono hB.size)
  replace hB := hB.trans (HL13.out.mono hB.size)
  exact ⟨rfl, hB⟩
end Go.Proofs.Ytmlhpchabnajkaa
