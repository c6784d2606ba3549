import Derived.Test.YthidfoohhhkobaaH8
import Derived.Test.YthidfoohhhkobaaH11
namespace Go.Proofs.Ythidfoohhhkobaa
set_option linter.unusedSimpArgs false
set_option linter.unusedVariables false
open Go.RowKit
set_option maxRecDepth 100000
set_option maxHeartbeats 4000000
theorem hd_t0 (h : Hd) (x : Int) : splice (dV (handD h)) 0 [vI x] = dV (handD { h with line := x }) := rfl
theorem hd_t1 (h : Hd) (x : Int) : splice (dV (handD h)) 1 [vI x] = dV (handD { h with at_ := x }) := rfl
theorem hd_t2 (h : Hd) (x : Int) : splice (dV (handD h)) 2 [vI x] = dV (handD { h with arr := x }) := rfl
theorem hd_t3s (h : Hd) (x : Int) : splice (dV (handD h)) 3 [vI x] = dV (handD { h with leg := x }) := rfl
theorem hd_t4 (h : Hd) (x : Int) : splice (dV (handD h)) 4 [vI x] = dV (handD { h with frm := x }) := rfl
theorem hd_t5 (h : Hd) (x : Int) : splice (dV (handD h)) 5 [vI x] = dV (handD { h with to_ := x }) := rfl
def hd7 (h : Hd) : List V := [vI h.line, vI h.at_, vI h.arr, vI h.leg, vI h.frm, vI h.to_, vI h.many]
theorem hd_parts (h : Hd) : dV (handD h) = hd7 h ++ (dV (rootD h.root.toList) ++ [vI h.time, vI h.se, vI h.ss]) := by
  simp [handD, hd7, dV, tailD]
theorem hd_pre (h : Hd) : (hd7 h ++ dV (rootD h.root.toList)).length = 39 := by simp [hd7, dV, rootD_ln]
theorem splice_app (a b c : List V) (k : Nat) (h : k = a.length + b.length) (x y : List V) (hx : c = x ++ y) (z : List V) (hz : z.length = x.length) : splice (a ++ (b ++ c)) k z = a ++ (b ++ (z ++ y)) := by
  subst h hx
  unfold splice
  rw [← List.append_assoc, ← List.append_assoc, show a.length + b.length = (a ++ b).length by simp, List.append_assoc (a ++ b), List.take_left' rfl, hz, List.drop_append, List.drop_eq_nil_of_le (by omega), Nat.add_sub_cancel_left, List.drop_left' rfl]
  simp
theorem hd_s39 (h : Hd) (x : Int) : splice (dV (handD h)) 39 [vI x] = dV (handD { h with time := x }) := by
  rw [hd_parts, hd_parts]
  exact splice_app (hd7 h) _ _ 39 (by have := hd_pre h; simpa using this.symm) [vI h.time] [vI h.se, vI h.ss] rfl [vI x] rfl
theorem hd_s40a (h : Hd) (x : Int) : splice (dV (handD h)) 40 [vI x] = dV (handD { h with se := x }) := by
  rw [hd_parts, hd_parts]
  have := splice_app (hd7 h) (dV (rootD h.root.toList) ++ [vI h.time]) [vI h.se, vI h.ss] 40 (by have := hd_pre h; simp at this ⊢; omega) [vI h.se] [vI h.ss] rfl [vI x] rfl
  simp only [List.append_assoc, List.cons_append, List.nil_append] at this
  exact this
theorem hd_s41 (h : Hd) (x : Int) : splice (dV (handD h)) 41 [vI x] = dV (handD { h with ss := x }) := by
  rw [hd_parts, hd_parts]
  have := splice_app (hd7 h) (dV (rootD h.root.toList) ++ [vI h.time, vI h.se]) [vI h.ss] 41 (by have := hd_pre h; simp at this ⊢; omega) [vI h.ss] [] rfl [vI x] rfl
  simp only [List.append_assoc, List.cons_append, List.nil_append] at this
  exact this
theorem hd_s7 (h : Hd) (r : Vector UInt8 32) : splice (dV (handD h)) 7 (bytesV (strL r.toList)) = dV (handD { h with root := r }) := by
  rw [hd_parts, hd_parts]
  have := splice_app (hd7 h) [] (dV (rootD h.root.toList) ++ [vI h.time, vI h.se, vI h.ss]) 7 rfl (dV (rootD h.root.toList)) _ rfl (bytesV (strL r.toList)) (by simp [bytesV, strL, dV, rootD])
  rw [List.nil_append, List.nil_append] at this
  rw [this]
  congr 1
  simp [bytesV, strL, dV, rootD]
def zHandV : Value := .agg ((List.replicate 7 (Value.int .i64 0) ++ List.replicate 32 (Value.int .u8 0) ++ List.replicate 3 (Value.int .i64 0)).toArray)
theorem ty_H : ty T 46 = some ⟨.struct [(0, 3), (3, 1), (4, 1), (5, 1), (6, 1), (7, 32), (39, 1), (40, 2)], 42, zHandV, 112⟩ := by kernel_rfl
theorem zH_one : allOne zHandV = true := by kernel_rfl
theorem zH_cells : zcells zHandV = dV (handD default) := by kernel_rfl
theorem zH_map : List.map (fun c => V.d (D.c c)) zHandV.cells.toList = dV (handD default) := by kernel_rfl
theorem hd_dr (h : Hd) : List.drop 42 (dV (handD h)) = [] := List.drop_eq_nil_of_le (by rw [hd_sz]; exact Nat.le_refl _)
theorem zH_D : zD zHandV = handD default := by kernel_rfl
def vK : Cd.V → Int
  | .mk k _ _ _ => k
def vN : Cd.V → Int
  | .mk _ n _ _ => n
def vS : Cd.V → List UInt8
  | .mk _ _ s _ => s
def vL : Cd.V → List Cd.V
  | .mk _ _ _ l => l
def val4 (v : Cd.V) : List D := [cI (vK v), cI (vN v), .c (.string (strL (vS v))), .sl 4 val0 (valsD (vL v))]
theorem val4_eq (v : Cd.V) : valD v = val4 v := by cases v; rfl
def rootOf (s : List UInt8) : Vector UInt8 32 := if h : s.toArray.size = 32 then ⟨s.toArray, h⟩ else Vector.replicate 32 0
def elOk (i : Nat) (e : Cd.V) : Bool := if i = 7 then (vK e == 2) && (((vS e).length : Int) == 32) else vK e == 1
def setF (i : Nat) (e : Cd.V) (h : Hd) : Hd := match i with
  | 0 => { h with line := vN e }
  | 1 => { h with at_ := vN e }
  | 2 => { h with arr := vN e }
  | 3 => { h with leg := vN e }
  | 4 => { h with frm := vN e }
  | 5 => { h with to_ := vN e }
  | 6 => { h with many := vN e }
  | 7 => { h with root := rootOf (vS e) }
  | 8 => { h with time := vN e }
  | 9 => { h with se := vN e }
  | _ => { h with ss := vN e }
def elAt (l : List Cd.V) (k : Nat) : Cd.V := l.getD k Cd.V.zero
def hS (l : List Cd.V) : Nat → Hd
  | 0 => default
  | k + 1 => setF k (elAt l k) (hS l k)
def badF (l : List Cd.V) : Nat → Nat → Nat
  | k, 0 => k
  | k, f + 1 => if elOk k (elAt l k) then badF l (k + 1) f else k
theorem badF_eq (l : List Cd.V) (k : Nat) (h0 : ∀ i, i < k → elOk i (elAt l i) = true) (h1 : elOk k (elAt l k) = false) : ∀ f j, j ≤ k → k < j + f → badF l j f = k
  | 0, j, h2, h3 => by omega
  | f + 1, j, h2, h3 => by
    unfold badF
    by_cases hj : j = k
    · subst hj; rw [h1]; simp
    · rw [if_pos (h0 j (by omega))]
      exact badF_eq l k h0 h1 f (j + 1) (by omega) (by omega)
theorem badF_all (l : List Cd.V) : ∀ f j, (∀ i, i < j + f → elOk i (elAt l i) = true) → badF l j f = j + f
  | 0, j, _ => rfl
  | f + 1, j, h => by
    unfold badF
    rw [if_pos (h j (by omega)), badF_all l f (j + 1) fun i hi => h i (by omega)]
    omega
def rdV (v : Cd.V) : Hd × Bool := if vK v = 3 ∧ (vL v).length = 11 then (hS (vL v) (badF (vL v) 0 11), decide (badF (vL v) 0 11 = 11) && formB (hS (vL v) 11)) else (default, false)
def readH (b : List UInt8) : Hd × Bool := match Cd.dec b with
  | some v => rdV v
  | none => (default, false)
abbrev ptrsV : List V := [.ptr 0 0, .ptr 0 1, .ptr 0 2, .ptr 0 3, .ptr 0 4, .ptr 0 5, .ptr 0 6, .d (.c (.pointer none)), .ptr 0 39, .ptr 0 40, .ptr 0 41]
def offF (k : Nat) : Nat := if k < 7 then k else 31 + k
theorem hix : ∀ k, k < 11 → k ≠ 7 → ptrsV[k]? = some (.ptr 0 (offF k))
  | 0, _, _ => rfl
  | 1, _, _ => rfl
  | 2, _, _ => rfl
  | 3, _, _ => rfl
  | 4, _, _ => rfl
  | 5, _, _ => rfl
  | 6, _, _ => rfl
  | 7, _, h => absurd rfl h
  | 8, _, _ => rfl
  | 9, _, _ => rfl
  | 10, _, _ => rfl
  | k + 11, h, _ => absurd h (by omega)
theorem hstF (h : Hd) (e : Cd.V) : ∀ k, k < 11 → k ≠ 7 → splice (dV (handD h)) (offF k) [vI (vN e)] = dV (handD (setF k e h))
  | 0, _, _ => hd_t0 h _
  | 1, _, _ => hd_t1 h _
  | 2, _, _ => hd_t2 h _
  | 3, _, _ => hd_t3s h _
  | 4, _, _ => hd_t4 h _
  | 5, _, _ => hd_t5 h _
  | 6, _, _ => hd_s6 h _
  | 7, _, h => absurd rfl h
  | 8, _, _ => hd_s39 h _
  | 9, _, _ => hd_s40a h _
  | 10, _, _ => hd_s41 h _
  | k + 11, h, _ => absurd h (by omega)
theorem hst7 (h : Hd) (e : Cd.V) (he : (vS e).length = 32) : splice (dV (handD h)) 7 (bytesV (strL (vS e))) = dV (handD (setF 7 e h)) := by
  have hz : (vS e).toArray.size = 32 := by simpa using he
  have hr : rootOf (vS e) = ⟨(vS e).toArray, hz⟩ := by rw [rootOf, dif_pos hz]
  have := hd_s7 h ⟨(vS e).toArray, hz⟩
  simp only [setF, hr]
  rw [← this]
  rfl
theorem getD_vals (l : List Cd.V) (k : Nat) (hk : k < l.length) : (valsD l).getD k val0 = val4 (elAt l k) := by
  rw [valsD_map, elAt, ← val4_eq]
  simp [List.getD_eq_getElem?_getD, List.getElem?_map, List.getElem?_eq_getElem hk]
theorem fits_at : ∀ (l : List Cd.V) (k : Nat), Cd.V.fitss l → k < l.length → (elAt l k).fits
  | v :: l, 0, h, _ => h.1
  | v :: l, k + 1, h, hk => fits_at l k h.2 (by simpa using hk)
theorem dec_fits {b : List UInt8} {v : Cd.V} (hb : b.length ≤ 1000000) (h : Cd.dec b = some v) : v.fits := by
  unfold Cd.dec at h
  split at h
  · rename_i v' h'
    cases h
    exact (Cd.V.enc_dec 16 b v [] (by omega) h').2.2.2
  · cases h
theorem vN_R {v : Cd.V} (h : v.fits) : Cd.i64R (vN v) := by cases v; exact h.2.1
theorem hmany (b : List UInt8) (l : List Cd.V) (n : Int) (t : List UInt8) (hb : b.length ≤ 1000000) (hd : Cd.dec b = some (.mk 3 n t l)) (h11 : l.length = 11) : -9223372036854775808 ≤ (hS l 11).many ∧ (hS l 11).many ≤ 9223372036854775807 :=
  vN_R (fits_at l 6 (dec_fits hb hd).2.2.2.2 (by omega))
theorem gread_spec (b : List UInt8) (hb : b.length ≤ 1000000) : Spec Try.prog 32 [.one (bsD b)] (.rt [.agg (handD (readH b).1), aB (readH b).2]) := by
  have hc := cdDec_spec b hb
  unfold readH
  cases hd : Cd.dec b with
  | none =>
    rw [hd, Option.getD_none, val4_eq, val4] at hc
    refine spec_of T_ok Try.func32 (by dsimp only [Try.f32]) rfl rfl (by simp) fun w F => ?_
    repeat' (first | (with_reducible refine aw_seq ?_) | ((with_reducible refine two_intro ?_ ?_) <;> intro h <;> first | contradiction | (((revert h; intro _)))) | ((with_reducible refine And.intro ?_ ?_); (focus (rfl))) | ((first | ((with_reducible refine aw_regionA T_ok ?_ ?_); kernel_rfl) | ((with_reducible refine aw_drawnA T_ok ?_ ?_ ?_ ?_); kernel_rfl; kernel_rfl; (focus (decide +kernel))) | ((with_reducible refine callI_spec (hc) ?_ ?_ ?_ ?_); (focus (with_unfolding_all rfl)); kernel_rfl; kernel_rfl) | ((with_reducible apply callI_in T_ok Try.func57); (focus (dsimp only [Try.f57])); (focus rfl); (focus rfl); kernel_rfl; (focus exact of_decide_eq_true (by kernel_rfl)); (focus (kernel_rfl)); kernel_rfl; intro _) | ((with_reducible refine aw_condM ?_ ?_); kernel_rfl) | (with_reducible refine aw_ret ?_) ); simp only [↓avP, avQ, avR, forall_const, implies_true, Nat.reduceEqDiff, Nat.reduceAdd, Nat.reduceSub, Nat.reduceLeDiff, reduceCtorEq, avS, handS, ty_3, ↓zH_one, hd_dr, zH_map, ty_H, ty_40, ty_44, ty_112, ty_111, ty_85, ty_82]; try simp (disch := omega) only [av_w, av_t1, av_tp, Int.toNat_natCast]))
    exact ⟨Sub.refl _, Sub.refl _⟩
  | some v =>
    rw [hd, Option.getD_some, val4_eq, val4] at hc
    obtain ⟨k, n, t, l⟩ := v
    simp only [vK, vN, vS, vL] at hc
    cases h3 : (k != 3) with
    | true =>
      have h3' : k ≠ 3 := by simpa using h3
      refine spec_of T_ok Try.func32 (by dsimp only [Try.f32]) rfl rfl (by simp) fun w F => ?_
      repeat' (first | (with_reducible refine aw_seq ?_) | ((with_reducible refine two_intro ?_ ?_) <;> intro h <;> first | contradiction | (((guard_hyp h : true = true; clear h)))) | ((with_reducible refine And.intro ?_ ?_); (focus (rfl))) | ((first | ((with_reducible refine aw_regionA T_ok ?_ ?_); kernel_rfl) | ((with_reducible refine aw_drawnA T_ok ?_ ?_ ?_ ?_); kernel_rfl; kernel_rfl; (focus (decide +kernel))) | ((with_reducible refine callI_spec (hc) ?_ ?_ ?_ ?_); (focus (with_unfolding_all rfl)); kernel_rfl; kernel_rfl) | ((with_reducible apply callI_in T_ok Try.func57); (focus (dsimp only [Try.f57])); (focus rfl); (focus rfl); kernel_rfl; (focus exact of_decide_eq_true (by kernel_rfl)); (focus (kernel_rfl)); kernel_rfl; intro _) | ((with_reducible refine aw_condM ?_ ?_); kernel_rfl) | (with_reducible refine aw_ret ?_) ); simp only [↓avP, avQ, avR, forall_const, implies_true, Nat.reduceEqDiff, Nat.reduceAdd, Nat.reduceSub, Nat.reduceLeDiff, reduceCtorEq, avS, handS, ty_3, ↓zH_one, hd_dr, zH_map, ty_H, ty_40, ty_44, ty_112, ty_111, ty_85, ty_82, h3]; try simp (disch := omega) only [av_w, av_t1, av_tp, Int.toNat_natCast]))
      simp only [rdV, vK, h3', false_and, if_false]
      exact ⟨Sub.refl _, Sub.refl _⟩
    | false =>
    obtain rfl : k = 3 := by simpa using h3
    by_cases h11 : l.length = 11
    · refine spec_of T_ok Try.func32 (by dsimp only [Try.f32]) rfl rfl (by simp) fun w F => ?_
      have hln : ((l.length : Int) != 11) = false := by simp; omega
      repeat' (first | (with_reducible refine aw_seq ?_) | ((with_reducible refine two_intro ?_ ?_) <;> intro h <;> first | contradiction | ((first | (guard_hyp h : true = true; clear h) | (revert h; intro _)))) | ((with_reducible refine And.intro ?_ ?_); (focus (rfl))) | (with_reducible refine aw_block ?_) | ((first | ((with_reducible refine aw_regionA T_ok ?_ ?_); kernel_rfl) | ((with_reducible refine aw_drawnA T_ok ?_ ?_ ?_ ?_); kernel_rfl; kernel_rfl; (focus (decide +kernel))) | ((with_reducible refine callI_spec (hc) ?_ ?_ ?_ ?_); (focus (with_unfolding_all rfl)); kernel_rfl; kernel_rfl) | ((with_reducible apply callI_in T_ok Try.func57); (focus (dsimp only [Try.f57])); (focus rfl); (focus rfl); kernel_rfl; (focus exact of_decide_eq_true (by kernel_rfl)); (focus (kernel_rfl)); kernel_rfl; intro _) | (with_reducible refine aw_skip ?_) | ((with_reducible refine aw_condM ?_ ?_); kernel_rfl) | (with_reducible refine aw_ret ?_) ); simp only [↓avP, avQ, avR, forall_const, implies_true, Nat.reduceEqDiff, Nat.reduceAdd, Nat.reduceSub, Nat.reduceLeDiff, reduceCtorEq, avS, handS, ty_3, ↓zH_one, hd_dr, zH_map, ty_H, ty_40, ty_44, ty_112, ty_111, ty_85, ty_82, hln, valsD_len]; try simp (disch := omega) only [av_w, av_t1, av_tp, Int.toNat_natCast]))
      refine aw_loopI (fun k : Nat => ⟨[(2, .ptr 0 0), (3, vB false), (4, .ptr 1 0), (30, .agg ptrsV), (31, vI k)], [(1, .cells 85 [.d (cI 3), .d (cI n), .d (.c (.string (strL t))), .d (.sl 4 val0 (valsD l))]), (0, .cells 46 (dV (handD (hS l k))))], 2⟩) (fun k => k ≤ 11 ∧ ∀ i, i < k → elOk i (elAt l i) = true) (fun k => 11 - k) 0 ⟨Nat.zero_le _, fun i hi => absurd hi (Nat.not_lt_zero i)⟩ (wk_of [(0, some 0), (1, some 1)] rfl rfl ?_ ?_) ?_
      · simp only [wkA, reduceIte, Nat.reduceEqDiff]
        (repeat' (first | rfl | exact subVs_d _ _))
      · simp only [wkA, reduceIte, Nat.reduceEqDiff, hS]
        (repeat' (first | rfl | exact subVs_d _ _))
      rintro k ⟨hk, h0⟩
      have hv : rdV (.mk 3 n t l) = (hS l (badF l 0 11), decide (badF l 0 11 = 11) && formB (hS l 11)) := by rw [rdV, if_pos ⟨rfl, h11⟩]; rfl
      rw [hv]
      rcases Nat.lt_or_ge k 11 with hlt | hge
      · have hd2 : decide ((k : Int) < 11) = true := decide_eq_true (by omega)
        have hge := getD_vals l k (by omega)
        rw [val4] at hge
        have hbad : elOk k (elAt l k) = false → badF l 0 11 = k := fun h => badF_eq l k h0 h 11 0 (Nat.zero_le _) (by omega)
        have hnext : elOk k (elAt l k) = true → ∀ i, i < k + 1 → elOk i (elAt l i) = true := fun h i hi => by
          rcases Nat.lt_succ_iff_lt_or_eq.1 hi with h' | rfl
          · exact h0 i h'
          · exact h
        by_cases h7 : k = 7
        · have hnn : ptrsV[k]? = some (.d (.c (.pointer none))) := by rw [h7]; rfl
          cases hk1 : (vK (elAt l k) == 2) with
          | false =>
            have hb := hbad (by rw [elOk, if_pos h7, hk1]; rfl)
            repeat' (first | (with_reducible refine aw_seq ?_) | ((with_reducible refine two_intro ?_ ?_) <;> intro h <;> first | contradiction | ((first | (guard_hyp h : true = true; clear h) | (guard_hyp h : false = false; clear h)))) | ((with_reducible refine And.intro ?_ ?_); (focus (first | exact ptrTy_intp | omega | rfl))) | (with_reducible refine aw_block ?_) | ((first | ((with_reducible refine aw_regionA T_ok ?_ ?_); kernel_rfl) | (with_reducible refine aw_skip ?_) | ((with_reducible refine aw_condM ?_ ?_); kernel_rfl) | (with_reducible refine aw_ret ?_) ); simp only [↓avP, avQ, avR, forall_const, implies_true, Nat.reduceEqDiff, Nat.reduceAdd, Nat.reduceLeDiff, reduceCtorEq, avS, handS, ty_3, hd_dr, ty_H, ty_112, ty_111, ty_85, ty_82, ty_9, hd2, hge, hnn, hk1, valsD_len, h11]; try simp (disch := omega) only [av_w, av_t1, av_tp, Int.toNat_natCast]))
            rw [hb]
            refine ⟨Sub.refl _, Sub.of_eq (congrArg aB ?_)⟩
            rw [decide_eq_false (by omega), Bool.false_and]
          | true =>
          cases hk2 : (((vS (elAt l k)).length : Int) == 32) with
          | false =>
            have hb := hbad (by rw [elOk, if_pos h7, hk2, Bool.and_false])
            repeat' (first | (with_reducible refine aw_seq ?_) | ((with_reducible refine two_intro ?_ ?_) <;> intro h <;> first | contradiction | ((first | (guard_hyp h : true = true; clear h) | (guard_hyp h : false = false; clear h)))) | ((with_reducible refine And.intro ?_ ?_); (focus (first | exact ptrTy_intp | omega | rfl))) | (with_reducible refine aw_block ?_) | ((first | ((with_reducible refine aw_regionA T_ok ?_ ?_); kernel_rfl) | (with_reducible refine aw_skip ?_) | ((with_reducible refine aw_condM ?_ ?_); kernel_rfl) | (with_reducible refine aw_ret ?_) ); simp only [↓avP, avQ, avR, forall_const, implies_true, Nat.reduceEqDiff, Nat.reduceAdd, Nat.reduceLeDiff, reduceCtorEq, avS, handS, ty_3, hd_dr, ty_H, ty_112, ty_111, ty_85, ty_82, ty_9, hd2, hge, hnn, hk1, hk2, str_sz, valsD_len, h11]; try simp (disch := omega) only [av_w, av_t1, av_tp, Int.toNat_natCast]))
            rw [hb]
            refine ⟨Sub.refl _, Sub.of_eq (congrArg aB ?_)⟩
            rw [decide_eq_false (by omega), Bool.false_and]
          | true =>
            have hn2 := hnext (by rw [elOk, if_pos h7, hk1, hk2]; rfl)
            have hsl : (vS (elAt l k)).length = 32 := by have := beq_iff_eq.1 hk2; omega
            have hs := hst7 (hS l k) (elAt l k) hsl
            have hs' : setF 7 (elAt l k) (hS l k) = hS l (k + 1) := by rw [hS, h7]
            rw [hs'] at hs
            unfold splice at hs
            repeat' (first | (with_reducible refine aw_seq ?_) | ((with_reducible refine two_intro ?_ ?_) <;> intro h <;> first | contradiction | ((first | (guard_hyp h : true = true; clear h) | (revert h; intro _)))) | ((with_reducible refine And.intro ?_ ?_); (focus (first | exact ptrTy_intp | omega | rfl))) | (with_reducible refine aw_block ?_) | ((first | ((with_reducible refine aw_regionA T_ok ?_ ?_); kernel_rfl) | ((with_reducible refine aw_drawnA T_ok ?_ ?_ ?_ ?_); kernel_rfl; kernel_rfl; (focus (decide +kernel))) | (with_reducible refine aw_skip ?_) | ((with_reducible refine aw_condM ?_ ?_); kernel_rfl) ); simp only [↓avP, avQ, avR, forall_const, implies_true, Nat.reduceEqDiff, Nat.reduceAdd, Nat.reduceLeDiff, reduceCtorEq, handS, ty_3, ty_H, ty_42, ty_112, ty_111, ty_85, ty_82, ty_23, ty_9, ty_5, hd2, hge, hnn, hk1, hsl, hs, str_sz, valsD_len, h11]; try simp (disch := omega) only [av_w]))
            refine ⟨k + 1, ⟨by omega, hn2⟩, by dsimp only; omega, wk_of [(0, some 0), (1, some 1)] rfl rfl ?_ ?_⟩
            · simp only [wkA, reduceIte, Nat.reduceEqDiff]
              (repeat' (first | rfl | exact subVs_d _ _))
            · simp only [wkA, reduceIte, Nat.reduceEqDiff]
              (repeat' (first | rfl | exact subVs_d _ _))
        · have hi := hix k hlt h7
          have hs := hstF (hS l k) (elAt l k) k hlt h7
          rw [← hS] at hs
          have ho : offF k ≤ 41 := by unfold offF; split <;> omega
          cases hk1 : (vK (elAt l k) == 1) with
          | true =>
            have hn2 := hnext (by rw [elOk, if_neg h7, hk1])
            repeat' (first | (with_reducible refine aw_seq ?_) | ((with_reducible refine two_intro ?_ ?_) <;> intro h <;> first | contradiction | ((first | (guard_hyp h : true = true; clear h) | (guard_hyp h : false = false; clear h)))) | ((with_reducible refine And.intro ?_ ?_); (focus (first | exact ptrTy_intp | omega | rfl))) | (with_reducible refine aw_block ?_) | ((first | ((with_reducible refine aw_regionA T_ok ?_ ?_); kernel_rfl) | (with_reducible refine aw_skip ?_) | ((with_reducible refine aw_condM ?_ ?_); kernel_rfl) | (with_reducible refine aw_ret ?_) ); simp only [↓avP, avQ, avR, forall_const, implies_true, Nat.reduceEqDiff, Nat.reduceAdd, Nat.reduceLeDiff, reduceCtorEq, avS, handS, ty_3, hd_dr, ty_H, ty_112, ty_111, ty_85, ty_82, ty_9, hd2, hge, hi, ho, ↓hs, hk1, valsD_len, h11]; try simp (disch := omega) only [av_w, av_t1, av_tp, Int.toNat_natCast]))
            refine ⟨k + 1, ⟨by omega, hn2⟩, by dsimp only; omega, wk_of [(0, some 0), (1, some 1)] rfl rfl ?_ ?_⟩
            · simp only [wkA, reduceIte, Nat.reduceEqDiff]
              (repeat' (first | rfl | exact subVs_d _ _))
            · simp only [wkA, reduceIte, Nat.reduceEqDiff]
              (repeat' (first | rfl | exact subVs_d _ _))
          | false =>
            have hb := hbad (by rw [elOk, if_neg h7, hk1])
            repeat' (first | (with_reducible refine aw_seq ?_) | ((with_reducible refine two_intro ?_ ?_) <;> intro h <;> first | contradiction | ((first | (guard_hyp h : true = true; clear h) | (guard_hyp h : false = false; clear h)))) | ((with_reducible refine And.intro ?_ ?_); (focus (first | exact ptrTy_intp | omega | rfl))) | (with_reducible refine aw_block ?_) | ((first | ((with_reducible refine aw_regionA T_ok ?_ ?_); kernel_rfl) | (with_reducible refine aw_skip ?_) | ((with_reducible refine aw_condM ?_ ?_); kernel_rfl) | (with_reducible refine aw_ret ?_) ); simp only [↓avP, avQ, avR, forall_const, implies_true, Nat.reduceEqDiff, Nat.reduceAdd, Nat.reduceLeDiff, reduceCtorEq, avS, handS, ty_3, hd_dr, ty_H, ty_112, ty_111, ty_85, ty_82, ty_9, hd2, hge, hi, ho, ↓hs, hk1, valsD_len, h11]; try simp (disch := omega) only [av_w, av_t1, av_tp, Int.toNat_natCast]))
            rw [hb]
            refine ⟨Sub.refl _, Sub.of_eq (congrArg aB ?_)⟩
            rw [decide_eq_false (by omega), Bool.false_and]
      · obtain rfl : k = 11 := by omega
        have hb11 : badF l 0 11 = 11 := badF_all l 11 0 (fun i hi => h0 i (by omega))
        have hf := gformed_spec (hS l 11) (hmany b l n t hb hd h11)
        repeat' (first | (with_reducible refine aw_seq ?_) | ((with_reducible refine two_intro ?_ ?_) <;> intro h <;> first | contradiction | (((revert h; intro _)))) | ((first | ((with_reducible refine aw_regionA T_ok ?_ ?_); kernel_rfl) | ((with_reducible refine aw_drawnI (id := 15) [3] [] T_ok ?_ ?_ ?_ ?_ ?_); kernel_rfl; kernel_rfl; (focus (decide +kernel)); kernel_rfl) | ((with_reducible refine callK_intro (hf) ?_ ?_ ?_); (focus (((repeat' (first | exact ta_n | refine ta_a ?_)); done))); kernel_rfl) | (with_reducible refine fin2_intro ?_) | (with_reducible refine aw_exit ?_) | ((with_reducible refine aw_condM ?_ ?_); kernel_rfl) | (with_reducible refine aw_ret ?_) ); simp only [↓avP, avQ, avR, forall_const, implies_true, Nat.reduceEqDiff, Nat.reduceAdd, Nat.reduceLeDiff, reduceCtorEq, ↓sameK.eq_def, sameL, pickOps, avS, handS, hd_dr, ty_H]; try simp (disch := omega) only [av_w, av_t1, av_tp, Int.toNat_natCast]))
        rw [hb11]
        exact ⟨Sub.refl _, Sub.of_eq (congrArg aB (by simp))⟩
    · have hln : ((l.length : Int) != 11) = true := by simp; omega
      refine spec_of T_ok Try.func32 (by dsimp only [Try.f32]) rfl rfl (by simp) fun w F => ?_
      repeat' (first | (with_reducible refine aw_seq ?_) | ((with_reducible refine two_intro ?_ ?_) <;> intro h <;> first | contradiction | ((first | (guard_hyp h : true = true; clear h) | (revert h; intro _)))) | ((with_reducible refine And.intro ?_ ?_); (focus (rfl))) | (with_reducible refine aw_block ?_) | ((first | ((with_reducible refine aw_regionA T_ok ?_ ?_); kernel_rfl) | ((with_reducible refine aw_drawnA T_ok ?_ ?_ ?_ ?_); kernel_rfl; kernel_rfl; (focus (decide +kernel))) | ((with_reducible refine callI_spec (hc) ?_ ?_ ?_ ?_); (focus (with_unfolding_all rfl)); kernel_rfl; kernel_rfl) | ((with_reducible apply callI_in T_ok Try.func57); (focus (dsimp only [Try.f57])); (focus rfl); (focus rfl); kernel_rfl; (focus exact of_decide_eq_true (by kernel_rfl)); (focus (kernel_rfl)); kernel_rfl; intro _) | (with_reducible refine aw_skip ?_) | ((with_reducible refine aw_condM ?_ ?_); kernel_rfl) | (with_reducible refine aw_ret ?_) ); simp only [↓avP, avQ, avR, forall_const, implies_true, Nat.reduceEqDiff, Nat.reduceAdd, Nat.reduceSub, Nat.reduceLeDiff, reduceCtorEq, avS, handS, ty_3, ↓zH_one, hd_dr, zH_map, ty_H, ty_40, ty_44, ty_112, ty_111, ty_85, ty_82, hln, valsD_len]; try simp (disch := omega) only [av_w, av_t1, av_tp, Int.toNat_natCast]))
      simp only [rdV, vL, h11, and_false, if_false]
      exact ⟨Sub.refl _, Sub.refl _⟩
end Go.Proofs.Ythidfoohhhkobaa

