import Derived.KernelRfl
import Derived.Test.YthidfoohhhkobaaProg
import Derived.WalkKit
import Derived.WalkLawsBesides
import Derived.WalkSpells
import Derived.Lib.Hide
import Derived.Deep.QuietTactic
import Derived.BigQuiet
import Derived.Deep.LoopGhost
import Derived.Deep.DeepCutAuto
import Derived.Deep.DeepFit
import Derived.Deep.Light
import Derived.Test.YthidfoohhhkobaaH4
import Derived.Deep.AppendLies
import Derived.Laws.DeepNot64
namespace Go.Proofs.Ythidfoohhhkobaa.Cd
set_option linter.unusedSimpArgs false
set_option linter.unusedVariables false

inductive V where
  | mk (k n : Int) (s : List UInt8) (l : List V)

def numF : Nat → Nat → List UInt8
  | 0, _ => []
  | f + 1, u => if u < 128 then [UInt8.ofNat u] else UInt8.ofNat (u % 128 + 128) :: numF f (u / 128)
def num (u : Nat) : List UInt8 := numF 10 u
def zz (n : Int) : Nat := if 0 ≤ n then 2 * n.toNat else 2 * (-n - 1).toNat + 1
def unzz (u : Nat) : Int := if u % 2 = 0 then ((u / 2 : Nat) : Int) else -((u / 2 : Nat) : Int) - 1

def i64R (n : Int) : Prop := -9223372036854775808 ≤ n ∧ n ≤ 9223372036854775807
theorem zz_lt {n : Int} (h : i64R n) : zz n < 18446744073709551616 := by
  unfold zz; unfold i64R at h; split <;> omega
theorem unzz_zz {n : Int} : unzz (zz n) = n := by
  unfold zz
  split
  · unfold unzz; rw [if_pos (by omega)]; omega
  · unfold unzz; rw [if_neg (by omega)]; omega
theorem zz_unzz {u : Nat} : zz (unzz u) = u := by
  unfold unzz
  split
  · unfold zz; rw [if_pos (by omega)]; omega
  · unfold zz; rw [if_neg (by omega)]; omega
theorem unzz_R {u : Nat} (h : u < 18446744073709551616) : i64R (unzz u) := by
  unfold unzz i64R; split <;> omega

theorem numF_len (f : Nat) : ∀ u, (numF f u).length ≤ f := by
  induction f with
  | zero => intro u; simp [numF]
  | succ f ih => intro u; unfold numF; split <;> simp; exact ih _
theorem numF_pos (f u : Nat) : 0 < (numF (f + 1) u).length := by unfold numF; split <;> simp
theorem num_pos (u : Nat) : 0 < (num u).length := numF_pos 9 u
theorem num_le (u : Nat) : (num u).length ≤ 10 := numF_len 10 u
def decN : Nat → Nat → List UInt8 → Option (Nat × List UInt8)
  | 0, _, _ => none
  | _ + 1, _, [] => none
  | f + 1, i, c :: r =>
    if (i = 0 ∨ c.toNat ≠ 0) ∧ (i < 9 ∨ c.toNat ≤ 1) then
      (if c.toNat < 128 then some (c.toNat, r) else (decN f (i + 1) r).map fun p => (c.toNat - 128 + 128 * p.1, p.2))
    else none
def decNum (l : List UInt8) : Option (Nat × List UInt8) := decN 10 0 l

theorem decN_num (j : Nat) : ∀ i u r, i + j = 9 → (i = 0 ∨ u ≠ 0) → u < 2 * 128 ^ j → decN (j + 1) i (numF (j + 1) u ++ r) = some (u, r) := by
  induction j with
  | zero =>
    intro i u r hi hu hlt
    have : u < 128 := by omega
    simp only [Nat.pow_zero, Nat.mul_one] at hlt
    unfold numF
    rw [if_pos this]
    have hc : (UInt8.ofNat u).toNat = u := by simp; omega
    simp only [List.cons_append, List.nil_append]
    unfold decN
    rw [hc, if_pos ⟨hu, by omega⟩, if_pos this]
  | succ j ih =>
    intro i u r hi hu hlt
    unfold numF
    by_cases h : u < 128
    · rw [if_pos h]
      have hc : (UInt8.ofNat u).toNat = u := by simp; omega
      simp only [List.cons_append, List.nil_append]
      unfold decN
      rw [hc, if_pos ⟨hu, by omega⟩, if_pos h]
    · rw [if_neg h]
      have hc : (UInt8.ofNat (u % 128 + 128)).toNat = u % 128 + 128 := by simp; omega
      simp only [List.cons_append]
      unfold decN
      rw [hc, if_pos ⟨by omega, by omega⟩, if_neg (by omega), ih (i + 1) (u / 128) r (by omega) (by omega) (by rw [Nat.pow_succ] at hlt; omega)]
      simp; omega
theorem decNum_num (u : Nat) (r : List UInt8) (h : u < 18446744073709551616) : decNum (num u ++ r) = some (u, r) :=
  decN_num 9 0 u r rfl (.inl rfl) (by simpa using h)

theorem num_decN (j : Nat) : ∀ i bs u r, i + j = 9 → decN (j + 1) i bs = some (u, r) → bs = numF (j + 1) u ++ r ∧ (i = 0 ∨ u ≠ 0) ∧ u < 2 * 128 ^ j := by
  induction j with
  | zero =>
    intro i bs u r hi h
    cases bs with
    | nil => simp [decN] at h
    | cons c bs =>
      unfold decN at h
      split at h
      · rename_i hc
        have : c.toNat < 128 := by omega
        rw [if_pos this] at h
        simp only [Option.some.injEq, Prod.mk.injEq] at h
        obtain ⟨rfl, rfl⟩ := h
        refine ⟨?_, by omega, by simp; omega⟩
        unfold numF
        rw [if_pos this]
        simp
      · cases h
  | succ j ih =>
    intro i bs u r hi h
    cases bs with
    | nil => simp [decN] at h
    | cons c bs =>
      unfold decN at h
      split at h
      · rename_i hc
        split at h
        · rename_i h128
          simp only [Option.some.injEq, Prod.mk.injEq] at h
          obtain ⟨rfl, rfl⟩ := h
          refine ⟨?_, by omega, ?_⟩
          · unfold numF
            rw [if_pos h128]
            simp
          · have : 0 < 128 ^ j := Nat.pow_pos (by omega)
            rw [Nat.pow_succ]; omega
        · rename_i h128
          cases hd : decN (j + 1) (i + 1) bs with
          | none => rw [hd] at h; cases h
          | some p =>
            obtain ⟨q, r'⟩ := p
            rw [hd] at h
            simp only [Option.map_some, Option.some.injEq, Prod.mk.injEq] at h
            obtain ⟨rfl, rfl⟩ := h
            obtain ⟨hb, hq, hlt⟩ := ih (i + 1) bs q r' (by omega) hd
            have hc256 := c.toNat_lt
            refine ⟨?_, by omega, by rw [Nat.pow_succ]; omega⟩
            unfold numF
            rw [if_neg (by omega)]
            have e1 : (c.toNat - 128 + 128 * q) % 128 + 128 = c.toNat := by omega
            have e2 : (c.toNat - 128 + 128 * q) / 128 = q := by omega
            rw [e1, e2, hb]
            simp
      · cases h
theorem num_decNum {bs : List UInt8} {u : Nat} {r : List UInt8} (h : decNum bs = some (u, r)) : bs = num u ++ r ∧ u < 18446744073709551616 := by
  obtain ⟨a, _, c⟩ := num_decN 9 0 bs u r rfl h
  exact ⟨a, by simpa using c⟩

mutual
def V.ok : V → Bool
  | .mk k n s l => if k = 1 then s.isEmpty && l.isEmpty else if k = 2 then decide (n = 0) && l.isEmpty else if k = 3 then decide (n = 0) && s.isEmpty && V.oks l else false
def V.oks : List V → Bool
  | [] => true
  | v :: l => v.ok && V.oks l
end
mutual
def V.depth : V → Nat
  | .mk k _ _ l => if k = 3 then V.depths l + 1 else 0
def V.depths : List V → Nat
  | [] => 0
  | v :: l => max v.depth (V.depths l)
end
mutual
def V.enc : V → List UInt8
  | .mk k n s l => if k = 1 then 1 :: num (zz n) else if k = 2 then 2 :: (num s.length ++ s) else 3 :: (num l.length ++ V.encs l)
def V.encs : List V → List UInt8
  | [] => []
  | v :: l => v.enc ++ V.encs l
end
mutual
def V.fits : V → Prop
  | .mk k n s l => i64R k ∧ i64R n ∧ s.length < 18446744073709551616 ∧ l.length < 18446744073709551616 ∧ V.fitss l
def V.fitss : List V → Prop
  | [] => True
  | v :: l => v.fits ∧ V.fitss l
end
mutual
def V.same : V → V → Bool
  | .mk k n s l, .mk k' n' s' l' => decide (k = k') && (decide (n = n') && (decide (s = s') && V.sames l l'))
def V.sames : List V → List V → Bool
  | [], [] => true
  | v :: l, v' :: l' => v.same v' && V.sames l l'
  | _, _ => false
end
def V.chk (v : V) : Int := if v.ok then (if 16 < v.depth then 2 else 0) else 1

def decL (f : List UInt8 → Option (V × List UInt8)) : Nat → List UInt8 → Option (List V × List UInt8)
  | 0, r => some ([], r)
  | n + 1, r => match f r with
    | none => none
    | some (v, r1) => match decL f n r1 with
      | none => none
      | some (l, r2) => some (v :: l, r2)
def decText (r : List UInt8) : Option (V × List UInt8) :=
  match decNum r with
  | none => none
  | some (n, r1) => if n ≤ r1.length then some (.mk 2 0 (r1.take n) [], r1.drop n) else none
def decInt (r : List UInt8) : Option (V × List UInt8) :=
  match decNum r with
  | none => none
  | some (u, r1) => some (.mk 1 (unzz u) [] [], r1)
def decList (f : List UInt8 → Option (V × List UInt8)) (r : List UInt8) : Option (V × List UInt8) :=
  match decNum r with
  | none => none
  | some (n, r1) => if n ≤ r1.length then (match decL f n r1 with
    | none => none
    | some (l, r2) => some (.mk 3 0 [] l, r2)) else none
def decV : Nat → List UInt8 → Option (V × List UInt8)
  | _, [] => none
  | d, c :: r => if c.toNat = 1 then decInt r else if c.toNat = 2 then decText r else if c.toNat = 3 then (match d with
      | 0 => none
      | d + 1 => decList (decV d) r) else none
def dec (bs : List UInt8) : Option V :=
  match decV 16 bs with
  | some (v, []) => some v
  | _ => none

mutual
def V.cnt : V → Int → Int
  | .mk _ _ s l, d => if d < 0 ∨ 150 < l.length then 1000 else V.cnts l d (1 + (s.length : Int) / 200)
def V.cnts : List V → Int → Int → Int
  | [], _, acc => acc
  | x :: l, d, acc => if acc ≤ 1000 then V.cnts l d (acc + x.cnt (d - 1)) else acc
end
mutual
def V.texts (B : Nat) : V → Prop
  | .mk _ _ s l => s.length ≤ B ∧ V.textss B l
def V.textss (B : Nat) : List V → Prop
  | [] => True
  | v :: l => v.texts B ∧ V.textss B l
end
mutual
theorem V.cnt_bd : ∀ (v : V) (d : Int), v.texts 140737488351232 → 1 ≤ v.cnt d ∧ v.cnt d ≤ 703687441757 + 1000 * (d + 1).toNat
  | .mk k n s l, d, h => by
    simp only [V.texts] at h
    simp only [V.cnt]
    split
    · omega
    · have := V.cnts_bd l d (1 + (s.length : Int) / 200) h.2 (by omega) (by omega) (by omega)
      omega
theorem V.cnts_bd : ∀ (l : List V) (d acc : Int), V.textss 140737488351232 l → 0 ≤ d → 1 ≤ acc → acc ≤ 703687441757 + 1000 * (d + 1).toNat → 1 ≤ V.cnts l d acc ∧ V.cnts l d acc ≤ 703687441757 + 1000 * (d + 1).toNat
  | [], d, acc, _, _, h1, h2 => by simp only [V.cnts]; omega
  | x :: l, d, acc, ht, hd, h1, h2 => by
    simp only [V.textss] at ht
    simp only [V.cnts]
    split
    · have hx := V.cnt_bd x (d - 1) ht.1
      exact V.cnts_bd l d _ ht.2 hd (by omega) (by omega)
    · omega
end
theorem V.cnts_ge : ∀ (l : List V) (d acc : Int), V.textss 140737488351232 l → acc ≤ V.cnts l d acc
  | [], d, acc, _ => by simp [V.cnts]
  | x :: l, d, acc, ht => by
    simp only [V.textss] at ht
    simp only [V.cnts]
    split
    · have hx := V.cnt_bd x (d - 1) ht.1
      have := V.cnts_ge l d (acc + x.cnt (d - 1)) ht.2
      omega
    · omega
mutual
theorem V.few : ∀ (v : V) (d : Int), v.texts 140737488351232 → v.cnt d ≤ 200 → 0 ≤ d ∧ (v.depth : Int) ≤ d + 1 ∧ (v.enc.length : Int) ≤ 211 * v.cnt d
  | .mk k n s l, d, ht, h => by
    simp only [V.texts] at ht
    simp only [V.cnt] at h ⊢
    split at h
    · omega
    · rename_i hd
      rw [if_neg hd]
      obtain ⟨h1, h2⟩ := V.fews l d (1 + (s.length : Int) / 200) ht.2 (by omega) h
      refine ⟨by omega, ?_, ?_⟩
      · simp only [V.depth]
        split <;> omega
      · have hz := num_le (zz n)
        have hs := num_le s.length
        have hl := num_le l.length
        have hg := V.cnts_ge l d (1 + (s.length : Int) / 200) ht.2
        simp only [V.enc]
        split
        · simp only [List.length_cons]; omega
        · split
          · simp only [List.length_cons, List.length_append]; omega
          · simp only [List.length_cons, List.length_append]; omega
theorem V.fews : ∀ (l : List V) (d acc : Int), V.textss 140737488351232 l → 0 ≤ acc → V.cnts l d acc ≤ 200 → (V.depths l : Int) ≤ d.toNat ∧ ((V.encs l).length : Int) ≤ 211 * (V.cnts l d acc - acc)
  | [], d, acc, _, _, h => by simp [V.depths, V.encs, V.cnts]; omega
  | x :: l, d, acc, ht, h0, h => by
    simp only [V.textss] at ht
    simp only [V.cnts] at h ⊢
    split at h
    · rename_i ha
      rw [if_pos ha]
      have hg := V.cnts_ge l d (acc + x.cnt (d - 1)) ht.2
      have hp := V.cnt_bd x (d - 1) ht.1
      obtain ⟨a1, a2, a3⟩ := V.few x (d - 1) ht.1 (by omega)
      obtain ⟨b1, b2⟩ := V.fews l d (acc + x.cnt (d - 1)) ht.2 (by omega) h
      simp only [V.depths, V.encs, List.length_append]
      omega
    · omega
end
theorem V.enc_pos (v : V) : 1 ≤ v.enc.length := by
  obtain ⟨k, n, s, l⟩ := v
  unfold V.enc
  split
  · simp
  · split <;> simp
theorem V.encs_len : ∀ l : List V, l.length ≤ (V.encs l).length
  | [] => by simp
  | v :: l => by
    have := V.encs_len l
    have := V.enc_pos v
    simp only [V.encs, List.length_append, List.length_cons]; omega

mutual
theorem V.dec_enc : ∀ (v : V) (d : Nat) (r : List UInt8), v.ok = true → v.depth ≤ d → v.fits → decV d (v.enc ++ r) = some (v, r)
  | .mk k n s l, d, r, ho, hd, hf => by
    simp only [V.fits] at hf
    obtain ⟨hk, hn, hs, hl, hfs⟩ := hf
    simp only [V.ok] at ho
    unfold V.enc
    by_cases h1 : k = 1
    · rw [if_pos h1] at ho ⊢
      simp only [Bool.and_eq_true, List.isEmpty_iff] at ho
      obtain ⟨rfl, rfl⟩ := ho
      subst h1
      simp only [List.cons_append]
      unfold decV
      rw [if_pos (by decide)]
      unfold decInt
      rw [decNum_num _ _ (zz_lt hn)]
      simp [unzz_zz]
    · rw [if_neg h1] at ho ⊢
      by_cases h2 : k = 2
      · rw [if_pos h2] at ho ⊢
        simp only [Bool.and_eq_true, List.isEmpty_iff, decide_eq_true_eq] at ho
        obtain ⟨rfl, rfl⟩ := ho
        subst h2
        simp only [List.cons_append, List.append_assoc]
        unfold decV
        rw [if_neg (by decide), if_pos (by decide)]
        unfold decText
        rw [decNum_num _ _ hs]
        simp
      · rw [if_neg h2] at ho ⊢
        by_cases h3 : k = 3
        · rw [if_pos h3] at ho
          simp only [Bool.and_eq_true, List.isEmpty_iff, decide_eq_true_eq] at ho
          obtain ⟨⟨rfl, rfl⟩, hoks⟩ := ho
          subst h3
          simp only [V.depth, if_true] at hd
          simp only [List.cons_append, List.append_assoc]
          cases d with
          | zero => omega
          | succ d =>
            unfold decV
            rw [if_neg (by decide), if_neg (by decide), if_pos (by decide)]
            show decList (decV d) _ = _
            unfold decList
            rw [decNum_num _ _ hl]
            simp only
            have hle := V.encs_len l
            rw [if_pos (by simp; omega), V.decs_encs l d r hoks (by omega) hfs]
        · rw [if_neg h3] at ho; cases ho
theorem V.decs_encs : ∀ (l : List V) (d : Nat) (r : List UInt8), V.oks l = true → V.depths l ≤ d → V.fitss l → decL (decV d) l.length (V.encs l ++ r) = some (l, r)
  | [], d, r, _, _, _ => by simp [decL, V.encs]
  | v :: l, d, r, ho, hd, hf => by
    simp only [V.oks, Bool.and_eq_true] at ho
    simp only [V.depths] at hd
    simp only [V.fitss] at hf
    simp only [List.length_cons, V.encs, List.append_assoc]
    unfold decL
    rw [V.dec_enc v d _ ho.1 (by omega) hf.1]
    simp only
    rw [V.decs_encs l d r ho.2 (by omega) hf.2]
end
theorem V.enc_dec (d : Nat) : ∀ bs v r, bs.length < 18446744073709551616 → decV d bs = some (v, r) → bs = v.enc ++ r ∧ v.ok = true ∧ v.depth ≤ d ∧ v.fits := by
  have H : ∀ d, (∀ bs v r, bs.length < 18446744073709551616 → decV d bs = some (v, r) → bs = v.enc ++ r ∧ v.ok = true ∧ v.depth ≤ d ∧ v.fits) := by
    intro d
    induction d with
    | zero =>
      intro bs v r hlen h
      cases bs with
      | nil => simp [decV] at h
      | cons c bs =>
        unfold decV at h
        simp only [List.length_cons] at hlen
        split at h
        · rename_i hc
          unfold decInt at h
          split at h
          · cases h
          · rename_i u r1 hd
            simp only [Option.some.injEq, Prod.mk.injEq] at h
            obtain ⟨rfl, rfl⟩ := h
            obtain ⟨e, hu⟩ := num_decNum hd
            have ec : c = 1 := by apply UInt8.toNat_inj.1; simpa using hc
            refine ⟨?_, by simp [V.ok], by simp [V.depth], ?_⟩
            · rw [e, ec]; simp [V.enc, zz_unzz]
            · simp [V.fits, V.fitss, i64R]; have := unzz_R hu; unfold i64R at this; omega
        · split at h
          · rename_i hc1 hc
            unfold decText at h
            split at h
            · cases h
            · rename_i u r1 hd
              split at h
              · rename_i hle
                simp only [Option.some.injEq, Prod.mk.injEq] at h
                obtain ⟨rfl, rfl⟩ := h
                obtain ⟨e, hu⟩ := num_decNum hd
                have ec : c = 2 := by apply UInt8.toNat_inj.1; simpa using hc
                have hmin : min u r1.length = u := by omega
                refine ⟨?_, by simp [V.ok], by simp [V.depth], ?_⟩
                · rw [e, ec]; simp [V.enc, hmin]
                · simp [V.fits, V.fitss, i64R]; omega
              · cases h
          · split at h
            · cases h
            · cases h
    | succ d ih =>
      intro bs v r hlen h
      cases bs with
      | nil => simp [decV] at h
      | cons c bs =>
        unfold decV at h
        simp only [List.length_cons] at hlen
        split at h
        · rename_i hc
          unfold decInt at h
          split at h
          · cases h
          · rename_i u r1 hd
            simp only [Option.some.injEq, Prod.mk.injEq] at h
            obtain ⟨rfl, rfl⟩ := h
            obtain ⟨e, hu⟩ := num_decNum hd
            have ec : c = 1 := by apply UInt8.toNat_inj.1; simpa using hc
            refine ⟨?_, by simp [V.ok], by simp [V.depth], ?_⟩
            · rw [e, ec]; simp [V.enc, zz_unzz]
            · simp [V.fits, V.fitss, i64R]; have := unzz_R hu; unfold i64R at this; omega
        · split at h
          · rename_i hc1 hc
            unfold decText at h
            split at h
            · cases h
            · rename_i u r1 hd
              split at h
              · rename_i hle
                simp only [Option.some.injEq, Prod.mk.injEq] at h
                obtain ⟨rfl, rfl⟩ := h
                obtain ⟨e, hu⟩ := num_decNum hd
                have ec : c = 2 := by apply UInt8.toNat_inj.1; simpa using hc
                have hmin : min u r1.length = u := by omega
                refine ⟨?_, by simp [V.ok], by simp [V.depth], ?_⟩
                · rw [e, ec]; simp [V.enc, hmin]
                · simp [V.fits, V.fitss, i64R]; omega
              · cases h
          · split at h
            · rename_i hc1 hc2 hc
              change decList (decV d) bs = some (v, r) at h
              unfold decList at h
              split at h
              · cases h
              · rename_i n r1 hd
                split at h
                · rename_i hle
                  split at h
                  · cases h
                  · rename_i l r2 hl
                    simp only [Option.some.injEq, Prod.mk.injEq] at h
                    obtain ⟨rfl, rfl⟩ := h
                    obtain ⟨e, hu⟩ := num_decNum hd
                    have ec : c = 3 := by apply UInt8.toNat_inj.1; simpa using hc
                    have hlr : r1.length ≤ bs.length := by rw [e]; simp
                    obtain ⟨e2, o2, d2, f2, n2⟩ := decL_sub d ih n r1 l r2 (by omega) hl
                    subst n2
                    refine ⟨?_, by simp [V.ok, o2], by simp [V.depth]; omega, ?_⟩
                    · rw [e, e2, ec]; simp [V.enc]
                    · simp [V.fits, i64R, f2]; omega
                · cases h
            · cases h
  exact H d
 where
  decL_sub (d : Nat) (ih : ∀ bs v r, bs.length < 18446744073709551616 → decV d bs = some (v, r) → bs = v.enc ++ r ∧ v.ok = true ∧ v.depth ≤ d ∧ v.fits) :
      ∀ (n : Nat) (bs : List UInt8) (l : List V) (r : List UInt8), bs.length < 18446744073709551616 → decL (decV d) n bs = some (l, r) → bs = V.encs l ++ r ∧ V.oks l = true ∧ V.depths l ≤ d ∧ V.fitss l ∧ l.length = n
    | 0, bs, l, r, _, h => by
      simp only [decL, Option.some.injEq, Prod.mk.injEq] at h
      obtain ⟨rfl, rfl⟩ := h
      simp [V.encs, V.oks, V.depths, V.fitss]
    | n + 1, bs, l, r, hb, h => by
      unfold decL at h
      split at h
      · cases h
      · rename_i v r1 hv
        split at h
        · cases h
        · rename_i l' r2 hl
          simp only [Option.some.injEq, Prod.mk.injEq] at h
          obtain ⟨rfl, rfl⟩ := h
          obtain ⟨e1, o1, d1, f1⟩ := ih _ _ _ hb hv
          have hr1 : r1.length ≤ bs.length := by rw [e1]; simp
          obtain ⟨e2, o2, d2, f2, n2⟩ := decL_sub d ih n _ _ _ (by omega) hl
          refine ⟨?_, by simp [V.oks, o1, o2], by simp only [V.depths]; omega, ⟨f1, f2⟩, by simp [n2]⟩
          rw [e1, e2]; simp [V.encs]

open Go.RowKit

mutual
def RepV (w : World) : V → Value → Prop
  | .mk k n s l, c => ∃ a cap, c = .agg #[.int .i64 k, .int .i64 n, .string ⟨s.toArray⟩, .slice a l.length cap] ∧ i64R k ∧ i64R n ∧ s.length ≤ 140737488351232 ∧ l.length ≤ cap ∧ l.length ≤ 140737488351232 ∧ RepL w l a
def RepL (w : World) : List V → Option Addr → Prop
  | [], _ => True
  | v :: l, a => ∃ b off c0 c1 c2 c3, a = some ⟨b, off, none⟩ ∧ w.cell? ⟨b, off, none⟩ = some c0 ∧ w.cell? ⟨b, off + 1, none⟩ = some c1 ∧ w.cell? ⟨b, off + 2, none⟩ = some c2 ∧ w.cell? ⟨b, off + 3, none⟩ = some c3 ∧ RepV w v (.agg #[c0, c1, c2, c3]) ∧ RepL w l (some ⟨b, off + 4, none⟩)
end
theorem RepL.get {w : World} : ∀ {l : List V} {a : Option Addr}, RepL w l a → ∀ i (h : i < l.length), ∃ b off c0 c1 c2 c3, a = some ⟨b, off, none⟩ ∧ w.cell? ⟨b, off + i * 4, none⟩ = some c0 ∧ w.cell? ⟨b, off + i * 4 + 1, none⟩ = some c1 ∧ w.cell? ⟨b, off + i * 4 + 2, none⟩ = some c2 ∧ w.cell? ⟨b, off + i * 4 + 3, none⟩ = some c3 ∧ RepV w l[i] (.agg #[c0, c1, c2, c3])
  | [], _, _, i, h => by simp at h
  | v :: l, a, hr, i, h => by
    simp only [RepL] at hr
    obtain ⟨b, off, c0, c1, c2, c3, rfl, h0, h1, h2, h3, hv, hl⟩ := hr
    cases i with
    | zero => exact ⟨b, off, c0, c1, c2, c3, rfl, by simpa using h0, by simpa using h1, by simpa using h2, by simpa using h3, hv⟩
    | succ i =>
      obtain ⟨b', off', d0, d1, d2, d3, e, g0, g1, g2, g3, hv'⟩ := RepL.get hl i (by simpa using h)
      simp only [Option.some.injEq, Addr.mk.injEq] at e
      obtain ⟨rfl, rfl, _⟩ := e
      have ee : off + 4 + i * 4 = off + (i + 1) * 4 := by omega
      rw [ee] at g0 g1 g2 g3
      exact ⟨b, off, d0, d1, d2, d3, rfl, g0, g1, g2, g3, hv'⟩

theorem RepL.at {w : World} {l : List V} {a : Option Addr} (hr : RepL w l a) (i : Nat) (h : i < l.length) : ∃ b off k n s a' len' cap', a = some ⟨b, off, none⟩ ∧ w.cell? ⟨b, off + i * 4, none⟩ = some (.int .i64 k) ∧ w.cell? ⟨b, off + i * 4 + 1, none⟩ = some (.int .i64 n) ∧ w.cell? ⟨b, off + i * 4 + 2, none⟩ = some (.string s) ∧ w.cell? ⟨b, off + i * 4 + 3, none⟩ = some (.slice a' len' cap') ∧ RepV w l[i] (.agg #[.int .i64 k, .int .i64 n, .string s, .slice a' len' cap']) := by
  obtain ⟨b, off, c0, c1, c2, c3, e, h0, h1, h2, h3, hv⟩ := hr.get i h
  have hv' := hv
  generalize hx : l[i] = x at *
  cases x with
  | mk k n s l' =>
    simp only [RepV] at hv
    obtain ⟨a', cap', hc, _⟩ := hv
    simp only [Value.agg.injEq, Array.mk.injEq, List.cons.injEq, and_true] at hc
    obtain ⟨rfl, rfl, rfl, rfl⟩ := hc
    exact ⟨b, off, k, n, _, a', _, cap', e, h0, h1, h2, h3, hv'⟩

theorem below_cell {w w' : World} (hb : Below w.heap.size w w') {a : Addr} {v : Value} (h : w.cell? a = some v) : w'.cell? a = some v := (hb.cell (World.block_lt_of_cell? _ _ h)).trans h
mutual
theorem RepV.below {w w' : World} (hb : Below w.heap.size w w') : ∀ {v : V} {c : Value}, RepV w v c → RepV w' v c
  | .mk k n s l, c, h => by
    simp only [RepV] at h ⊢
    obtain ⟨a, cap, h1, h2, h3, h4, h5, h6, h7⟩ := h
    exact ⟨a, cap, h1, h2, h3, h4, h5, h6, RepL.below hb h7⟩
theorem RepL.below {w w' : World} (hb : Below w.heap.size w w') : ∀ {l : List V} {a : Option Addr}, RepL w l a → RepL w' l a
  | [], _, _ => by simp only [RepL]
  | v :: l, a, h => by
    simp only [RepL] at h ⊢
    obtain ⟨b, off, c0, c1, c2, c3, e, h0, h1, h2, h3, hv, hl⟩ := h
    exact ⟨b, off, c0, c1, c2, c3, e, below_cell hb h0, below_cell hb h1, below_cell hb h2, below_cell hb h3, RepV.below hb hv, RepL.below hb hl⟩
end

def V.fd (v : V) : Nat := if v.ok then v.depth else 0
def FormedPost (v : V) (w : World) (e : Ending) (w' : World) : Prop := e = .returned (.tuple #[.int .i64 (v.fd : Int), .bool v.ok]) ∧ Below w.heap.size w w'
theorem formedPost_of {v : V} {w w' : World} {d : Int} {b : Bool} (hb : v.ok = b) (hd : (v.fd : Int) = d) (h : Below w.heap.size w w') : FormedPost v w (.returned (.tuple #[.int .i64 d, .bool b])) w' := by
  unfold FormedPost; rw [hb, hd]; exact ⟨rfl, h⟩

set_option maxHeartbeats 1000000 in
theorem formed_no (k n : Int) (s : List UInt8) (l : List V) (a : Option Addr) (cap : Nat) (w : World) (hk : k < 1 ∨ 3 < k) :
    Calls Try.prog 95 #[.agg #[.int .i64 k, .int .i64 n, .string ⟨s.toArray⟩, .slice a l.length cap]] w (FormedPost (.mk k n s l) w) := by
  have h0 : (V.mk k n s l).ok = false := by simp only [V.ok]; rw [if_neg (by omega), if_neg (by omega), if_neg (by omega)]
  have h1 : ((V.mk k n s l).fd : Int) = 0 := by unfold V.fd; rw [h0]; rfl
  generalize V.mk k n s l = v at *
  have H0 := Lib.hid h0
  have H1 := Lib.hid h1
  clear h0 h1
  rcases hk with hk | hk
  all_goals
    go_enter Try.func95, Try.ntmps95
    go_wp2
    all_goals
      go_ret2
      exact formedPost_of H0.out H1.out (((Below.refl _ _).alloc (Nat.le_refl _) _).alloc (by simp) _)

set_option maxHeartbeats 1000000 in
theorem formed_1 (n : Int) (s : List UInt8) (l : List V) (a : Option Addr) (cap : Nat) (w : World) :
    Calls Try.prog 95 #[.agg #[.int .i64 1, .int .i64 n, .string ⟨s.toArray⟩, .slice a l.length cap]] w (FormedPost (.mk 1 n s l) w) := by
  have h0 : (V.mk 1 n s l).ok = (s.isEmpty && ((l.length : Int) == 0)) := by cases l <;> simp [V.ok]; intro _; omega
  have h1 : ((V.mk 1 n s l).fd : Int) = 0 := by unfold V.fd; split <;> simp [V.depth]
  generalize V.mk 1 n s l = v at *
  have H0 := Lib.hid h0
  have H1 := Lib.hid h1
  clear h0 h1
  go_enter Try.func95, Try.ntmps95
  go_wp2
  all_goals
    go_ret2
    exact formedPost_of (by rw [H0.out]; simp_all) H1.out (((Below.refl _ _).alloc (Nat.le_refl _) _).alloc (by simp) _)

set_option maxHeartbeats 1000000 in
theorem formed_2 (n : Int) (s : List UInt8) (l : List V) (a : Option Addr) (cap : Nat) (w : World) :
    Calls Try.prog 95 #[.agg #[.int .i64 2, .int .i64 n, .string ⟨s.toArray⟩, .slice a l.length cap]] w (FormedPost (.mk 2 n s l) w) := by
  have h0 : (V.mk 2 n s l).ok = ((n == 0) && ((l.length : Int) == 0)) := by cases l <;> simp [V.ok] <;> (try rfl); intro _; omega
  have h1 : ((V.mk 2 n s l).fd : Int) = 0 := by unfold V.fd; split <;> simp [V.depth]
  generalize V.mk 2 n s l = v at *
  have H0 := Lib.hid h0
  have H1 := Lib.hid h1
  clear h0 h1
  go_enter Try.func95, Try.ntmps95
  go_wp2
  all_goals
    go_ret2
    exact formedPost_of (by rw [H0.out]; simp_all) H1.out (((Below.refl _ _).alloc (Nat.le_refl _) _).alloc (by simp) _)


set_option maxHeartbeats 1000000 in
theorem formed_3no (n : Int) (s : List UInt8) (l : List V) (a : Option Addr) (cap : Nat) (w : World) (hns : ¬ (n = 0 ∧ s = [])) :
    Calls Try.prog 95 #[.agg #[.int .i64 3, .int .i64 n, .string ⟨s.toArray⟩, .slice a l.length cap]] w (FormedPost (.mk 3 n s l) w) := by
  have h0 : (V.mk 3 n s l).ok = false := by
    simp only [V.ok]
    rw [if_neg (by decide), if_neg (by decide), if_pos trivial]
    by_cases h : n = 0
    · have : s ≠ [] := fun e => hns ⟨h, e⟩
      cases s with
      | nil => exact absurd rfl this
      | cons x s => simp
    · simp [h]
  have h1 : ((V.mk 3 n s l).fd : Int) = 0 := by unfold V.fd; rw [h0]; rfl
  generalize V.mk 3 n s l = v at *
  have H0 := Lib.hid h0
  have H1 := Lib.hid h1
  clear h0 h1
  by_cases h : n = 0
  · have hs : ¬ s = [] := fun e => hns ⟨h, e⟩
    subst h
    have HN := Lib.hid hs
    clear hns hs
    go_enter Try.func95, Try.ntmps95
    go_wp2

    all_goals first
      | (go_ret2; exact formedPost_of H0.out H1.out (((Below.refl _ _).alloc (Nat.le_refl _) _).alloc (by simp) _))
      | exact absurd (by simpa using ‹(!s.isEmpty) = false›) HN.out
  · clear hns
    go_enter Try.func95, Try.ntmps95
    go_wp2
    all_goals
      go_ret2
      exact formedPost_of H0.out H1.out (((Below.refl _ _).alloc (Nat.le_refl _) _).alloc (by simp) _)

theorem V.depths_take_succ (l : List V) (k : Nat) (h : k < l.length) : V.depths (l.take (k + 1)) = max (V.depths (l.take k)) l[k].depth := by
  induction l generalizing k with
  | nil => simp at h
  | cons v l ih =>
    cases k with
    | zero => simp [V.depths]
    | succ k => simp only [List.take_succ_cons, V.depths, List.getElem_cons_succ]; rw [ih k (by simpa using h)]; omega
theorem V.depths_take_le (l : List V) (k : Nat) : V.depths (l.take k) ≤ V.depths l := by
  induction l generalizing k with
  | nil => simp
  | cons v l ih =>
    cases k with
    | zero => simp [V.depths]
    | succ k => simp only [List.take_succ_cons, V.depths]; have := ih k; omega
theorem V.depth_mem {v : V} : ∀ {l : List V}, v ∈ l → v.depth ≤ V.depths l
  | [], h => by simp at h
  | x :: l, h => by
    simp only [V.depths]
    rcases List.mem_cons.1 h with rfl | h
    · omega
    · have := V.depth_mem h; omega
theorem V.oks_take_succ (l : List V) (k : Nat) (h : k < l.length) : V.oks (l.take (k + 1)) = (V.oks (l.take k) && l[k].ok) := by
  induction l generalizing k with
  | nil => simp at h
  | cons v l ih =>
    cases k with
    | zero => simp [V.oks]
    | succ k => simp only [List.take_succ_cons, V.oks, List.getElem_cons_succ]; rw [ih k (by simpa using h), Bool.and_assoc]
theorem V.oks_false (l : List V) (k : Nat) (h : k < l.length) (hk : l[k].ok = false) : V.oks l = false := by
  induction l generalizing k with
  | nil => simp at h
  | cons v l ih =>
    cases k with
    | zero => simp at hk; simp [V.oks, hk]
    | succ k => simp only [V.oks]; rw [ih k (by simpa using h) (by simpa using hk), Bool.and_false]

set_option maxHeartbeats 1000000 in
theorem formed_3 (l : List V) (a : Option Addr) (cap : Nat) (w : World) (hr : RepL w l a) (hl : l.length ≤ cap) (hc : l.length ≤ 140737488351232) (hd : V.depths l ≤ 1000000)
    (ih : ∀ v, v ∈ l → ∀ w c, RepV w v c → Calls Try.prog 95 #[c] w (FormedPost v w)) :
    Calls Try.prog 95 #[.agg #[.int .i64 3, .int .i64 0, .string ⟨#[]⟩, .slice a l.length cap]] w (FormedPost (.mk 3 0 [] l) w) := by
  have HR := Lib.hid hr
  have IH := Lib.hid ih
  clear hr ih
  obtain ⟨z, hz⟩ : ∃ z, ((l.length : Int) == 0) = z := ⟨_, rfl⟩
  go_enter Try.func95, Try.ntmps95
  go_wp2
  clear hz
  go_loopw [2, 57] (fun d i wr => ∃ k : Nat, k ≤ l.length ∧ i = .int .i64 k ∧ d = .int .i64 (V.depths (l.take k) : Nat) ∧ Hid (V.oks (l.take k) = true) ∧ Below w.heap.size w wr) (fun _ i _ => l.length - (intOf i).toNat)
  case atStart => exact ⟨0, Nat.zero_le _, rfl, by simp [V.depths], by simp [V.oks, Hid], ((Below.refl _ _).alloc (Nat.le_refl _) _).alloc (by simp) _⟩
  case round =>
    obtain ⟨k, hk, rfl, rfl, hoks, hb⟩ := hrel
    by_cases hlt : k < l.length
    · obtain ⟨b, off, k0, n0, s0, a', len', cap', rfl, g0, g1, g2, g3, hv⟩ := (RepL.below hb HR.out).at k hlt
      have HV := Lib.hid hv
      clear hv
      go_wp2_with fail
      refine (IH.out l[k] (List.getElem_mem _) _ _ (RepV.below (((Below.refl _ _).alloc (Nat.le_refl _) _)) HV.out)).mono ?_
      rintro e w1 ⟨rfl, hb1⟩
      have hbb : Below w.heap.size w w1 := hb.trans (((Below.refl w.heap.size wr).alloc hb.size _).trans (hb1.mono (by have := hb.size; simp; omega)))
      by_cases hok : l[k].ok = true
      · go_wp2
        go_roundw
        case rel =>
          refine ⟨k + 1, by omega, by go_num, ?_, ?_, hbb⟩
          · rw [V.depths_take_succ l k hlt]
            have : l[k].fd = l[k].depth := by unfold V.fd; rw [hok]; rfl
            rw [this]
            congr 1
            split <;> omega
          · unfold Hid; rw [V.oks_take_succ l k hlt, hoks.out, hok]; rfl
        case measure => simp [intOf]; omega
      · have hok' : l[k].ok = false := by simpa using hok
        clear hok
        go_wp2
        go_ret2
        exact formedPost_of (by simp [V.ok, V.oks_false l k hlt hok']) (by simp [V.fd, V.ok, V.oks_false l k hlt hok']) hbb
    · have hkl : k = l.length := by omega
      have hd' := hoks.out
      rw [hkl, List.take_length] at hd'
      have e1 : (V.mk 3 0 [] l).ok = true := by simp [V.ok, hd']
      have e2 : (((V.mk 3 0 [] l).fd : Nat) : Int) = (V.depths (l.take k) : Nat) + 1 := by unfold V.fd; rw [e1, hkl, List.take_length]; simp [V.depth]
      have e3 := V.depths_take_le l k
      generalize V.mk 3 0 [] l = v at *
      have E1 := Lib.hid e1
      have E2 := Lib.hid e2
      clear e1 e2 hd' hkl
      go_wp2
      go_ret2
      exact formedPost_of E1.out E2.out hb

theorem formed_any (m : Nat) : ∀ (v : V) (w : World) (c : Value), SizeOf.sizeOf v ≤ m → v.depth ≤ 1000000 → RepV w v c → Calls Try.prog 95 #[c] w (FormedPost v w) := by
  induction m with
  | zero => intro v w c hm; cases v; simp at hm
  | succ m ih =>
    intro v w c hm hd hr
    obtain ⟨k, n, s, l⟩ := v
    simp only [RepV] at hr
    obtain ⟨a, cap, rfl, hk, hn, hs, hl, hcap, hrl⟩ := hr
    by_cases h : k < 1 ∨ 3 < k
    · exact formed_no k n s l a cap w h
    · obtain rfl | rfl | rfl : k = 1 ∨ k = 2 ∨ k = 3 := by omega
      · exact formed_1 n s l a cap w
      · exact formed_2 n s l a cap w
      · by_cases hns : n = 0 ∧ s = []
        · obtain ⟨rfl, rfl⟩ := hns
          simp only [V.depth, if_true] at hd
          refine formed_3 l a cap w hrl hl hcap (by omega) fun x hx w' c' hr' => ih x w' c' ?_ ?_ hr'
          · have := List.sizeOf_lt_of_mem hx
            simp at hm; omega
          · have := V.depth_mem hx; omega
        · exact formed_3no n s l a cap w (by omega)

theorem ret_bool {a b : Bool} (h : a = b) : Ending.returned (.bool a) = .returned (.bool b) := by rw [h]
theorem ret_int {k : IntKind} {a b : Int} (h : a = b) : Ending.returned (.int k a) = .returned (.int k b) := by rw [h]
def Gives (v : Value) (w : World) (e : Ending) (w' : World) : Prop := e = .returned v ∧ Below w.heap.size w w'
theorem V.ok_other {k n : Int} {s : List UInt8} {l : List V} (h1 : ¬ k = 1) (h2 : ¬ k = 2) (h3 : ¬ k = 3) : (V.mk k n s l).ok = false := by
  simp only [V.ok]; rw [if_neg h1, if_neg h2, if_neg h3]
theorem V.ok_3 {n : Int} {s : List UInt8} {l : List V} : (V.mk 3 n s l).ok = ((n == 0) && s.isEmpty && V.oks l) := by
  simp [V.ok]; rfl

set_option maxHeartbeats 1000000 in
theorem rformed_12 (k n : Int) (s : List UInt8) (l : List V) (a : Option Addr) (cap : Nat) (w : World) (hk : ¬ k = 3) :
    Calls Try.prog 76 #[.agg #[.int .i64 k, .int .i64 n, .string ⟨s.toArray⟩, .slice a l.length cap]] w (Gives (.bool (V.mk k n s l).ok) w) := by
  by_cases h1 : k = 1
  · subst h1
    have h0 : (V.mk 1 n s l).ok = (s.isEmpty && ((l.length : Int) == 0)) := by cases l <;> simp [V.ok]; intro _; omega
    rw [h0]; clear h0 hk
    unfold Gives
    go_enter Try.func76, Try.ntmps76
    go_wp2
    all_goals
      go_ret
      exact ⟨ret_bool (by simp_all), (Below.refl _ _).alloc (Nat.le_refl _) _⟩
  · by_cases h2 : k = 2
    · subst h2
      have h0 : (V.mk 2 n s l).ok = ((n == 0) && ((l.length : Int) == 0)) := by cases l <;> simp [V.ok] <;> (try rfl); intro _; omega
      rw [h0]; clear h0 hk h1
      unfold Gives
      go_enter Try.func76, Try.ntmps76
      go_wp2
      all_goals
        go_ret
        exact ⟨ret_bool (by simp_all), (Below.refl _ _).alloc (Nat.le_refl _) _⟩
    · rw [V.ok_other h1 h2 hk]
      have g1 : (k == 1) = false := by simpa using h1
      have g2 : (k == 2) = false := by simpa using h2
      have g3 : (k == 3) = false := by simpa using hk
      clear h1 h2 hk
      unfold Gives
      go_enter Try.func76, Try.ntmps76
      go_wp2
      all_goals
        go_ret
        exact ⟨ret_bool (by simp_all), (Below.refl _ _).alloc (Nat.le_refl _) _⟩

set_option maxHeartbeats 1000000 in
theorem rformed_3 (n : Int) (s : List UInt8) (l : List V) (a : Option Addr) (cap : Nat) (w : World) (hr : RepL w l a) (hl : l.length ≤ cap) (hc : l.length ≤ 140737488351232)
    (ih : ∀ v, v ∈ l → ∀ w c, RepV w v c → Calls Try.prog 76 #[c] w (Gives (.bool v.ok) w)) :
    Calls Try.prog 76 #[.agg #[.int .i64 3, .int .i64 n, .string ⟨s.toArray⟩, .slice a l.length cap]] w (Gives (.bool (V.mk 3 n s l).ok) w) := by
  have HR := Lib.hid hr
  have IH := Lib.hid ih
  clear hr ih
  rw [V.ok_3]
  obtain ⟨z, hz⟩ : ∃ z, ((n == 0) && s.isEmpty && V.oks l) = z := ⟨_, rfl⟩
  rw [hz]
  have HZ := Lib.hid hz
  clear hz
  unfold Gives
  go_enter Try.func76, Try.ntmps76
  go_wp2
  go_loopw [3] (fun i wr => ∃ k : Nat, k ≤ l.length ∧ i = .int .i64 k ∧ Hid (V.oks (l.take k) = true) ∧ Below (w.heap.size + 1) (w.alloc (.cells #[.int .i64 3, .int .i64 n, .string ⟨s.toArray⟩, .slice a l.length cap] 85)) wr) (fun i _ => l.length - (intOf i).toNat)
  case atStart => exact ⟨0, Nat.zero_le _, rfl, by simp [V.oks, Hid], Below.refl _ _⟩
  case round =>
    obtain ⟨k, hk, rfl, hoks, hb⟩ := hrel
    have q1 : wr.cell? ⟨w.heap.size, 1, none⟩ = some (.int .i64 n) := (hb.cell (by simp)).trans (by go_simp)
    have q2 : wr.cell? ⟨w.heap.size, 2, none⟩ = some (.string ⟨s.toArray⟩) := (hb.cell (by simp)).trans (by go_simp)
    have q3 : wr.cell? ⟨w.heap.size, 3, none⟩ = some (.slice a l.length cap) := (hb.cell (by simp)).trans (by go_simp)
    have hb0 : Below w.heap.size w wr := ((Below.refl _ _).alloc (Nat.le_refl _) _).trans (hb.mono (by omega))
    by_cases hlt : k < l.length
    · obtain ⟨b, off, k0, n0, s0, a', len', cap', rfl, g0, g1, g2, g3, hv⟩ := (RepL.below hb0 HR.out).at k hlt
      have HV := Lib.hid hv
      clear hv
      go_wp2_with fail
      refine (IH.out l[k] (List.getElem_mem _) _ _ HV.out).mono ?_
      rintro e w1 ⟨rfl, hb1⟩
      have hbb := hb.trans (hb1.mono (by have := hb.size; simpa using this))
      have hb0' := hb0.trans (hb1.mono hb0.size)
      by_cases hok : l[k].ok = true
      · go_wp2
        go_roundw
        case rel =>
          exact ⟨k + 1, by omega, by go_num, by unfold Hid; rw [V.oks_take_succ l k hlt, hoks.out, hok]; rfl, hbb⟩
        case measure => simp [intOf]; omega
      · have hok' : l[k].ok = false := by simpa using hok
        clear hok
        go_wp2
        go_ret
        exact ⟨ret_bool (by rw [← HZ.out, V.oks_false l k hlt hok']; simp), hb0'⟩
    · have hkl : k = l.length := by omega
      have hd' := hoks.out
      rw [hkl, List.take_length] at hd'
      have HD := Lib.hid hd'
      clear hd' hkl
      go_wp2
      all_goals
        go_ret
        exact ⟨ret_bool (by rw [← HZ.out, HD.out]; simp_all), hb0⟩

theorem rformed_any (m : Nat) : ∀ (v : V) (w : World) (c : Value), SizeOf.sizeOf v ≤ m → RepV w v c → Calls Try.prog 76 #[c] w (Gives (.bool v.ok) w) := by
  induction m with
  | zero => intro v w c hm; cases v; simp at hm
  | succ m ih =>
    intro v w c hm hr
    obtain ⟨k, n, s, l⟩ := v
    simp only [RepV] at hr
    obtain ⟨a, cap, rfl, hk, hn, hs, hl, hcap, hrl⟩ := hr
    by_cases h : k = 3
    · subst h
      refine rformed_3 n s l a cap w hrl hl hcap fun x hx w' c' hr' => ih x w' c' ?_ hr'
      have := List.sizeOf_lt_of_mem hx
      simp at hm; omega
    · exact rformed_12 k n s l a cap w h

def GivesI (n : Int) (w : World) (e : Ending) (w' : World) : Prop := e = .returned (.int .i64 n) ∧ Below w.heap.size w w'
theorem givesI_of {a b : Int} {w w' : World} (h : a = b) (hb : Below w.heap.size w w') : GivesI a w (.returned (.int .i64 b)) w' := by rw [h]; exact ⟨rfl, hb⟩
set_option maxHeartbeats 1000000 in
theorem rdepth_no (k n : Int) (s : List UInt8) (l : List V) (a : Option Addr) (cap : Nat) (w : World) (hk : ¬ k = 3) :
    Calls Try.prog 77 #[.agg #[.int .i64 k, .int .i64 n, .string ⟨s.toArray⟩, .slice a l.length cap]] w (GivesI (V.mk k n s l).depth w) := by
  have h0 : ((V.mk k n s l).depth : Int) = 0 := by simp [V.depth, hk]
  rw [h0]
  have g : (k != 3) = true := by simpa using hk
  clear h0 hk
  go_enter Try.func77, Try.ntmps77
  go_wp2
  go_ret
  exact givesI_of rfl ((Below.refl _ _).alloc (Nat.le_refl _) _)

set_option maxHeartbeats 1000000 in
theorem rdepth_3 (n : Int) (s : List UInt8) (l : List V) (a : Option Addr) (cap : Nat) (w : World) (hr : RepL w l a) (hl : l.length ≤ cap) (hc : l.length ≤ 140737488351232) (hd : V.depths l ≤ 1000000)
    (ih : ∀ v, v ∈ l → ∀ w c, RepV w v c → Calls Try.prog 77 #[c] w (GivesI v.depth w)) :
    Calls Try.prog 77 #[.agg #[.int .i64 3, .int .i64 n, .string ⟨s.toArray⟩, .slice a l.length cap]] w (GivesI (V.mk 3 n s l).depth w) := by
  have HR := Lib.hid hr
  have IH := Lib.hid ih
  clear hr ih
  have h0 : ((V.mk 3 n s l).depth : Int) = V.depths l + 1 := by simp [V.depth]
  rw [h0]
  clear h0
  go_enter Try.func77, Try.ntmps77
  go_wp2
  go_loopw [3, 4] (fun d i wr => ∃ k : Nat, k ≤ l.length ∧ i = .int .i64 k ∧ d = .int .i64 (V.depths (l.take k) : Nat) ∧ Below (w.heap.size + 1) (w.alloc (.cells #[.int .i64 3, .int .i64 n, .string ⟨s.toArray⟩, .slice a l.length cap] 85)) wr) (fun _ i _ => l.length - (intOf i).toNat)
  case atStart => exact ⟨0, Nat.zero_le _, rfl, by simp [V.depths], Below.refl _ _⟩
  case round =>
    obtain ⟨k, hk, rfl, rfl, hb⟩ := hrel
    have q3 : wr.cell? ⟨w.heap.size, 3, none⟩ = some (.slice a l.length cap) := (hb.cell (by simp)).trans (by go_simp)
    have hb0 : Below w.heap.size w wr := ((Below.refl _ _).alloc (Nat.le_refl _) _).trans (hb.mono (by omega))
    by_cases hlt : k < l.length
    · obtain ⟨b, off, k0, n0, s0, a', len', cap', rfl, g0, g1, g2, g3, hv⟩ := (RepL.below hb0 HR.out).at k hlt
      have HV := Lib.hid hv
      clear hv
      go_wp2_with fail
      refine (IH.out l[k] (List.getElem_mem _) _ _ HV.out).mono ?_
      rintro e w1 ⟨rfl, hb1⟩
      have hbb := hb.trans (hb1.mono (by have := hb.size; simpa using this))
      go_wp2
      go_roundw
      case rel =>
        refine ⟨k + 1, by omega, by go_num, ?_, hbb⟩
        rw [V.depths_take_succ l k hlt]
        congr 1
        split <;> omega
      case measure => simp [intOf]; omega
    · have hkl : k = l.length := by omega
      have e3 := V.depths_take_le l k
      have e4 : l.take k = l := by rw [hkl, List.take_length]
      have E4 := Lib.hid e4
      clear e4 hkl
      go_wp2
      go_ret
      exact givesI_of (by rw [E4.out]) hb0

theorem rdepth_any (m : Nat) : ∀ (v : V) (w : World) (c : Value), SizeOf.sizeOf v ≤ m → v.depth ≤ 1000000 → RepV w v c → Calls Try.prog 77 #[c] w (GivesI v.depth w) := by
  induction m with
  | zero => intro v w c hm; cases v; simp at hm
  | succ m ih =>
    intro v w c hm hd hr
    obtain ⟨k, n, s, l⟩ := v
    simp only [RepV] at hr
    obtain ⟨a, cap, rfl, hk, hn, hs, hl, hcap, hrl⟩ := hr
    by_cases h : k = 3
    · subst h
      simp only [V.depth, if_true] at hd
      refine rdepth_3 n s l a cap w hrl hl hcap (by omega) fun x hx w' c' hr' => ih x w' c' ?_ ?_ hr'
      · have := List.sizeOf_lt_of_mem hx
        simp at hm; omega
      · have := V.depth_mem hx; omega
    · exact rdepth_no k n s l a cap w h

def byteV (b : UInt8) : Value := .int .u8 (b.toNat : Int)
theorem byteV_one (l : List UInt8) : ∀ u ∈ l.map byteV, u.oneCell' = true := by
  intro u hu
  obtain ⟨b, _, rfl⟩ := List.mem_map.1 hu
  rfl
theorem infoB : (Try.prog.info? 5).map (fun i => (i.zero, i.size, i.bytes)) = some (some (.int .u8 0), 1, 1) := by kernel_rfl

theorem or128 (u : Nat) : bits BinOp.or IntKind.u8 (IntKind.u8.wrap (u : Int)) 128 = ((UInt8.ofNat (u % 128 + 128)).toNat : Int) := by
  rw [IntKind.wrap_u8']
  have h := u8_or_nat (u % 256) 128 (by omega) (by omega)
  have e : ((u : Int) % 256) = ((u % 256 : Nat) : Int) := by omega
  rw [e]
  rw [show ((128 : Nat) : Int) = 128 from rfl] at h
  rw [h]
  have h2 : u % 256 ||| 128 = u % 128 + 128 := by
    have h3 : ∀ x < 256, x ||| 128 = x % 128 + 128 := by decide +kernel
    rw [h3 _ (by omega)]; omega
  rw [h2]
  simp
  omega
theorem num_step {f j : Nat} (hj : j < 128 ^ (f + 1)) (h : 128 ≤ j) : ∃ f', f = f' + 1 ∧ j / 128 < 128 ^ (f' + 1) ∧ numF (f + 1) j = UInt8.ofNat (j % 128 + 128) :: numF (f' + 1) (j / 128) := by
  cases f with
  | zero => simp at hj; omega
  | succ f =>
    refine ⟨f, rfl, ?_, ?_⟩
    · rw [Nat.pow_succ] at hj; exact Nat.div_lt_of_lt_mul (by omega)
    · rw [numF, if_neg (by omega)]
theorem num_last {f j : Nat} (h : j < 128) : numF (f + 1) j = [UInt8.ofNat j] := by rw [numF, if_pos h]
theorem or128' (u : Nat) : bits BinOp.or IntKind.u8 ((u : Int) % 256) 128 = ((UInt8.ofNat (u % 128 + 128)).toNat : Int) := by
  rw [← or128, IntKind.wrap_u8']
def NumPost (base : Nat) (bs : List UInt8) (v : Value) (u : Nat) (w : World) (e : Ending) (w' : World) : Prop :=
  ∃ v', e = .returned v' ∧ Grew base 5 1 w v v' (bs ++ num u).length ((bs ++ num u).map byteV) w'

set_option maxRecDepth 100000 in
set_option maxHeartbeats 1000000 in
theorem numeral_any (base : Nat) (bs : List UInt8) (v : Value) (u : Nat) (w : World) (hu : u < 18446744073709551616) (hbs : bs.length ≤ 1000000000) (hbase : base ≤ w.heap.size)
    (hown : w.ownsRow base 5 1 v bs.length (bs.map byteV)) : Calls Try.prog 97 #[v, .int .u64 u] w (NumPost base bs v u w) := by
  have HO := Lib.hid hown
  clear hown
  have HU := Lib.hid hu
  clear hu
  obtain ⟨i0, hi, hz0, hz1, hz2⟩ := info_parts infoB
  go_enter Try.func97, Try.ntmps97
  go_wp2
  go_loopw [0, 1] (fun v1 x wr => ∃ (f j : Nat) (ds : List UInt8), x = .int .u64 j ∧ ds.length + f ≤ 9 ∧ j < 128 ^ (f + 1) ∧ (j : Int) ≤ 18446744073709551615 ∧ Hid (num u = ds ++ numF (f + 1) j) ∧ Grew base 5 1 w v v1 (bs ++ ds).length ((bs ++ ds).map byteV) wr) (fun _ x _ => (intOf x).toNat)
  case atStart => exact ⟨9, u, [], rfl, by simp, by have := HU.out; simp; omega, by have := HU.out; omega, rfl, by simpa using Grew.refl HO.out⟩
  case round =>
    obtain ⟨f, j, ds, rfl, hf, hj, hj64, hnum, hg⟩ := hrel
    have HG := Lib.hid hg
    have HJ := Lib.hid hj
    have hsz := hg.by_.size
    clear hg hj
    have k3 : (bs ++ ds).length + 1 ≤ maxLen := maxLen_le (by simp; omega)
    have k4 : ((bs ++ ds).length + 1) * 1 ≤ 140737488355328 := by simp; omega
    have K3 := Lib.hid k3
    have K4 := Lib.hid k4
    clear k3 k4
    have hbw : base ≤ wr.heap.size := by omega
    by_cases hlt : (128 : Int) ≤ j
    · go_wp2_with (at_builtin; refine wpList_append_own2 rfl _ _ 23 rfl base 5 i0 (.int .u8 0) 1 1 Try.underlying23 hi hz0 hz1 hz2 rfl (by decide) _ _ _ rfl (HG.out.own.alloc _) ⟨wr.heap.size, 0, none⟩ 1 1 [_] rfl rfl (cell_one_new _ _ _) (one_int _ _) K3.out K4.out (le_alloc hbw _) ?_; intro v2 w2 hg2)
      go_roundw
      case rel =>
        obtain ⟨f', rfl, hj', hn⟩ := num_step HJ.out (by omega)
        refine ⟨f', j / 128, ds ++ [UInt8.ofNat (j % 128 + 128)], by go_num, by simp; omega, hj', by omega, ?_, ?_⟩
        · unfold Hid; rw [hnum.out, hn]; simp
        · have hg3 := HG.out.trans (hg2.behind ((Below.refl _ _).alloc (Nat.le_refl _) _))
          rw [or128'] at hg3
          have e1 : (bs ++ (ds ++ [UInt8.ofNat (j % 128 + 128)])).length = (bs ++ ds).length + 1 := by simp; omega
          have e2 : (bs ++ (ds ++ [UInt8.ofNat (j % 128 + 128)])).map byteV = (bs ++ ds).map byteV ++ [.int .u8 ((UInt8.ofNat (j % 128 + 128)).toNat : Int)] := by simp [byteV]
          rw [e1, e2]
          exact hg3
      case measure => simp [intOf]; omega
    · go_wp2_with (at_builtin; refine wpList_append_own2 rfl _ _ 23 rfl base 5 i0 (.int .u8 0) 1 1 Try.underlying23 hi hz0 hz1 hz2 rfl (by decide) _ _ _ rfl (HG.out.own.alloc _) ⟨wr.heap.size, 0, none⟩ 1 1 [_] rfl rfl (cell_one_new _ _ _) (one_int _ _) K3.out K4.out (le_alloc hbw _) ?_; intro v2 w2 hg2)
      go_ret
      refine ⟨v2, rfl, ?_⟩
      have hg3 := HG.out.trans (hg2.behind ((Below.refl _ _).alloc (Nat.le_refl _) _))
      have e0 : num u = ds ++ [UInt8.ofNat j] := by rw [hnum.out, num_last (by omega)]
      have e3 : (j : Int) = ((UInt8.ofNat j).toNat : Int) := by simp; omega
      have e1 : (bs ++ (ds ++ [UInt8.ofNat j])).length = (bs ++ ds).length + 1 := by simp; omega
      have e2 : (bs ++ (ds ++ [UInt8.ofNat j])).map byteV = (bs ++ ds).map byteV ++ [.int .u8 (j : Int)] := by rw [e3]; simp [byteV]
      rw [e0, e1, e2]
      exact hg3

def Fresh (xs : List UInt8) (w : World) (e : Ending) (w' : World) : Prop :=
  ∃ v', e = .returned v' ∧ w'.ownsRow w.heap.size 5 1 v' xs.length (xs.map byteV) ∧ Below w.heap.size w w'

theorem fresh_one (b : UInt8) (n : Int) (w : World) (h : n = (b.toNat : Int)) : Fresh [b] w (.returned (.slice (some ⟨w.heap.size, 0, none⟩) 1 1)) (w.alloc (.cells #[.int .u8 n] 5)) :=
  ⟨_, rfl, by rw [h]; exact World.ownsRow_lit w #[byteV b] 1 (Nat.le_refl _) (by unfold maxLen; omega) rfl, (Below.refl _ _).alloc (Nat.le_refl _) _⟩

set_option maxRecDepth 100000 in
set_option maxHeartbeats 1000000 in
theorem rnumeral_any (f : Nat) : ∀ (u : Nat) (w : World), f ≤ 9 → u < 128 ^ (f + 1) → (u : Int) ≤ 18446744073709551615 → Calls Try.prog 78 #[.int .u64 u] w (Fresh (numF (f + 1) u) w) := by
  obtain ⟨i0, hi, hz0, hz1, hz2⟩ := info_parts infoB
  induction f with
  | zero =>
    intro u w _ hu _
    have hlt : (u : Int) < 128 := by simp at hu; omega
    clear hu
    rw [num_last (by omega)]
    obtain ⟨b, hb⟩ : ∃ b, UInt8.ofNat u = b := ⟨_, rfl⟩
    rw [hb]
    have HB := Lib.hid hb
    clear hb
    go_enter Try.func78, Try.ntmps78
    go_wp2
    go_ret
    exact fresh_one b u w (by rw [← HB.out]; simp; omega)
  | succ f ih =>
    intro u w hf hu hu64
    have IH := Lib.hid ih
    clear ih
    by_cases hlt : (u : Int) < 128
    · rw [num_last (by omega)]
      clear hu hu64
      obtain ⟨b, hb⟩ : ∃ b, UInt8.ofNat u = b := ⟨_, rfl⟩
      rw [hb]
      have HB := Lib.hid hb
      clear hb
      go_enter Try.func78, Try.ntmps78
      go_wp2
      go_ret
      exact fresh_one b u w (by rw [← HB.out]; simp; omega)
    · obtain ⟨f', hf', hu', hn⟩ := num_step hu (by omega)
      obtain rfl : f = f' := by omega
      rw [hn]
      obtain ⟨b, hb⟩ : ∃ b, UInt8.ofNat (u % 128 + 128) = b := ⟨_, rfl⟩
      rw [hb]
      have HB := Lib.hid hb
      clear hn hu hf' hb
      have hpos := numF_pos f (u / 128)
      have hle := numF_len (f + 1) (u / 128)
      have hdiv : (u : Int) / 128 = ((u / 128 : Nat) : Int) := by omega
      have HDIV := Lib.hid hdiv
      have ic := fun w => IH.out (u / 128) w (by omega) hu' (by omega)
      generalize numF (f + 1) (u / 128) = xs at *
      have IC := Lib.hid ic
      clear ic hu' hdiv
      go_enter Try.func78, Try.ntmps78
      go_wp2_with fail
      rw [HDIV.out]
      refine (IC.out _).mono ?_
      rintro e w1 ⟨v1, rfl, hown1, hb1⟩
      obtain ⟨g, cap, rfl, hg1, hg2⟩ := hown1.form hpos
      have hown0 := World.ownsRow_lit (e := 5) (size := 1) (base := w.heap.size) w #[.int .u8 (u % 128 + 128)] 1 (Nat.le_refl _) (by unfold maxLen; omega) rfl
      have hown0' := hown0.kept (⟨hb1.os, hb1.tape, hb1.output, hb1.size, fun k hk _ => hb1.block k hk⟩ : World.grownBy _ w1 none) (.inr (by simp [Value.ownBlock]))
      have HO0 := Lib.hid hown0'
      have HO1 := Lib.hid hown1
      have hsz : w.heap.size + 1 ≤ w1.heap.size := by have := hb1.size; simpa using this
      have hbw : w.heap.size ≤ w1.heap.size := by omega
      have K3 := Lib.hid (maxLen_le (n := 1 + xs.length) (by omega))
      have K4 := Lib.hid (show (1 + xs.length) * 1 ≤ 140737488355328 by omega)
      clear hown0 hown0' hown1
      go_wp2_with (at_builtin; refine wpList_append_own2 rfl _ _ 23 rfl w.heap.size 5 i0 (.int .u8 0) 1 1 Try.underlying23 hi hz0 hz1 hz2 rfl (by decide) _ _ _ rfl HO0.out ⟨g, 0, none⟩ xs.length cap (xs.map byteV) rfl HO1.out.1 (HO1.out.cells (g := g) rfl) (byteV_one _) K3.out K4.out hbw ?_; intro v2 w2 hg2)
      go_ret
      refine ⟨v2, rfl, ?_, ?_⟩
      · have := hg2.own
        have e3 : (u : Int) % 128 + 128 = (b.toNat : Int) := by rw [← HB.out]; simp; omega
        rw [e3] at this
        simp only [List.length_cons, List.map_cons]
        rw [Nat.add_comm]
        exact this
      · exact ((Below.refl _ _).alloc (Nat.le_refl _) _).trans ((hb1.mono (by simp)).trans (hg2.below (by omega) (fun g hg => by cases hg; exact Nat.le_refl _)))
theorem rnumeral (u : Nat) (w : World) (h : u < 18446744073709551616) : Calls Try.prog 78 #[.int .u64 u] w (Fresh (num u) w) :=
  rnumeral_any 9 u w (by omega) (by simp; omega) (by omega)

theorem xor_ones (x : Nat) (h : x < 18446744073709551616) : x ^^^ 18446744073709551615 = 18446744073709551615 - x := by
  have h1 := BitVec.toNat_not (x := BitVec.ofNat 64 x)
  rw [← BitVec.xor_allOnes] at h1
  simpa [BitVec.toNat_xor, Nat.mod_eq_of_lt h] using h1
theorem uns_eq (n : Int) (h1 : -9223372036854775808 ≤ n) (h2 : n ≤ 9223372036854775807) :
    bits BinOp.xor IntKind.u64 (IntKind.u64.wrap (IntKind.u64.wrap n * 2)) (IntKind.u64.wrap (n / 9223372036854775808)) = (zz n : Int) := by
  have hw : ∀ m, IntKind.u64.wrap m = m % 18446744073709551616 := fun m => by simp [IntKind.wrap, IntKind.bits, IntKind.signed]
  rw [hw, hw, hw]
  by_cases h : 0 ≤ n
  · have e1 : n / 9223372036854775808 % 18446744073709551616 = 0 := by omega
    have e2 : n % 18446744073709551616 * 2 % 18446744073709551616 = 2 * n := by omega
    rw [e1, e2, u64_xor _ _ (by omega) (by omega) (by omega) (by omega)]
    simp [zz, h]; omega
  · have e1 : n / 9223372036854775808 % 18446744073709551616 = 18446744073709551615 := by omega
    have e2 : n % 18446744073709551616 * 2 % 18446744073709551616 = 2 * n + 18446744073709551616 := by omega
    rw [e1, e2, u64_xor _ _ (by omega) (by omega) (by omega) (by omega)]
    have e3 : (18446744073709551615 : Int).toNat = 18446744073709551615 := rfl
    rw [e3, xor_ones _ (by omega)]
    simp only [zz]
    rw [if_neg h]; omega
theorem unsigned_any (n : Int) (w : World) (h : i64R n) : Calls Try.prog 98 #[.int .i64 n] w fun e w' => e = .returned (.int .u64 (zz n)) ∧ w = w' := by
  unfold i64R at h
  obtain ⟨h1, h2⟩ := h
  rw [← uns_eq n h1 h2]
  go_enter Try.func98, Try.ntmps98
  go_wp2
  go_ret
  exact ⟨rfl, rfl⟩
theorem runsigned_any (n : Int) (w : World) (h : i64R n) : Calls Try.prog 79 #[.int .i64 n] w fun e w' => e = .returned (.int .u64 (zz n)) ∧ w = w' := by
  unfold i64R at h
  obtain ⟨h1, h2⟩ := h
  obtain ⟨z, hz⟩ : ∃ z : Int, (zz n : Int) = z := ⟨_, rfl⟩
  rw [hz]
  have HZ := Lib.hid hz
  clear hz
  go_enter Try.func79, Try.ntmps79
  go_wp2
  all_goals go_ret
  · exact ⟨ret_int (by rw [← HZ.out]; simp only [zz]; rw [if_pos ‹_›]; omega), rfl⟩
  · exact ⟨ret_int (by rw [← HZ.out]; simp only [zz]; rw [if_neg (by omega)]; omega), rfl⟩
theorem sig_eq (n : Nat) (h : n < 18446744073709551616) : bits BinOp.xor IntKind.i64 ((n : Int) / 2) (wrap64 (-wrap64 (bits BinOp.and IntKind.u64 (n : Int) 1))) = unzz n := by
  rw [and_one_u64 _ (by omega) (by omega)]
  by_cases h2 : n % 2 = 0
  · have e : (n : Int) % 2 = 0 := by omega
    rw [e]
    have e2 : wrap64 (-wrap64 0) = 0 := by simp [wrap64]
    rw [e2]
    simp only [unzz]; rw [if_pos h2]
    have e3 : (n : Int) / 2 = ((n / 2 : Nat) : Int) := by omega
    rw [e3]
    show IntKind.i64.wrap ((BitVec.ofInt 64 _ ^^^ BitVec.ofInt 64 0).toNat : Int) = _
    rw [show BitVec.ofInt 64 0 = 0#64 from rfl, BitVec.xor_zero, ofInt_u64 _ (by omega)]
    simp [IntKind.wrap, IntKind.bits, IntKind.signed]
    omega
  · have e : (n : Int) % 2 = 1 := by omega
    rw [e]
    have e2 : wrap64 (-wrap64 1) = -1 := by simp [wrap64]
    rw [e2]
    simp only [unzz]; rw [if_neg h2]
    have hx := i64_not (n / 2) (by omega)
    have e3 : (n : Int) / 2 = ((n / 2 : Nat) : Int) := by omega
    rw [e3]
    have hc : bits BinOp.xor IntKind.i64 ((n / 2 : Nat) : Int) (-1) = bits BinOp.xor IntKind.i64 (-1) ((n / 2 : Nat) : Int) := by
      show IntKind.i64.wrap ((BitVec.ofInt 64 _ ^^^ BitVec.ofInt 64 _).toNat : Int) = IntKind.i64.wrap ((BitVec.ofInt 64 _ ^^^ BitVec.ofInt 64 _).toNat : Int)
      rw [BitVec.xor_comm]
    rw [hc, hx]; omega
theorem signed_any (n : Nat) (w : World) (h : n < 18446744073709551616) : Calls Try.prog 90 #[.int .u64 n] w fun e w' => e = .returned (.int .i64 (unzz n)) ∧ w = w' := by
  rw [← sig_eq n h]
  go_enter Try.func90, Try.ntmps90
  go_wp2
  go_ret
  exact ⟨rfl, rfl⟩
end Go.Proofs.Ythidfoohhhkobaa.Cd

