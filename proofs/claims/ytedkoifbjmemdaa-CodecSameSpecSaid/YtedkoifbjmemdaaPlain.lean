/-
  The plain mathematics of the codec: values as trees, their encodings, decoding, and that the two are inverse to each other. No program in sight.
-/
import Derived.KernelRfl
namespace Go.Proofs.Ytedkoifbjmemdaa

inductive V where
  | mk (k n : Int) (s : List UInt8) (l : List V)

/- numerals -/
def numF : Nat → Nat → List UInt8
  | 0, _ => []
  | f + 1, u => if u < 128 then [UInt8.ofNat u] else UInt8.ofNat (u % 128 + 128) :: numF f (u / 128)
def num (u : Nat) : List UInt8 := numF 10 u
def zz (n : Int) : Nat := if 0 ≤ n then 2 * n.toNat else 2 * (-n - 1).toNat + 1
def unzz (u : Nat) : Int := if u % 2 = 0 then ((u / 2 : Nat) : Int) else -((u / 2 : Nat) : Int) - 1

def i64R (n : Int) : Prop := -9223372036854775808 ≤ n ∧ n ≤ 9223372036854775807
theorem zz_lt {n : Int} (h : i64R n) : zz n < 18446744073709551616 := by
  unfold zz; unfold i64R at h; split <;> omega
theorem unzz_zz {n : Int} : unzz (zz n) = n := by
  unfold zz
  split
  · unfold unzz; rw [if_pos (by omega)]; omega
  · unfold unzz; rw [if_neg (by omega)]; omega
theorem zz_unzz {u : Nat} : zz (unzz u) = u := by
  unfold unzz
  split
  · unfold zz; rw [if_pos (by omega)]; omega
  · unfold zz; rw [if_neg (by omega)]; omega
theorem unzz_R {u : Nat} (h : u < 18446744073709551616) : i64R (unzz u) := by
  unfold unzz i64R; split <;> omega

theorem numF_len (f : Nat) : ∀ u, (numF f u).length ≤ f := by
  induction f with
  | zero => intro u; simp [numF]
  | succ f ih => intro u; unfold numF; split <;> simp; exact ih _
theorem numF_pos (f u : Nat) : 0 < (numF (f + 1) u).length := by unfold numF; split <;> simp
theorem numF_mono (f : Nat) : ∀ u v, u ≤ v → (numF f u).length ≤ (numF f v).length := by
  induction f with
  | zero => intro u v _; simp [numF]
  | succ f ih =>
    intro u v h
    unfold numF
    by_cases hv : v < 128
    · rw [if_pos (by omega), if_pos hv]; simp
    · rw [if_neg hv]
      by_cases hu : u < 128
      · rw [if_pos hu]; simp
      · rw [if_neg hu]; simp only [List.length_cons]; have := ih (u / 128) (v / 128) (by omega); omega
theorem num_pos (u : Nat) : 0 < (num u).length := numF_pos 9 u
theorem num_le (u : Nat) : (num u).length ≤ 10 := numF_len 10 u
theorem num_mono {u v : Nat} (h : u ≤ v) : (num u).length ≤ (num v).length := numF_mono 10 u v h

/- reading numerals -/
def decN : Nat → Nat → List UInt8 → Option (Nat × List UInt8)
  | 0, _, _ => none
  | _ + 1, _, [] => none
  | f + 1, i, c :: r =>
    if (i = 0 ∨ c.toNat ≠ 0) ∧ (i < 9 ∨ c.toNat ≤ 1) then
      (if c.toNat < 128 then some (c.toNat, r) else (decN f (i + 1) r).map fun p => (c.toNat - 128 + 128 * p.1, p.2))
    else none
def decNum (l : List UInt8) : Option (Nat × List UInt8) := decN 10 0 l

theorem decN_num (j : Nat) : ∀ i u r, i + j = 9 → (i = 0 ∨ u ≠ 0) → u < 2 * 128 ^ j → decN (j + 1) i (numF (j + 1) u ++ r) = some (u, r) := by
  induction j with
  | zero =>
    intro i u r hi hu hlt
    have : u < 128 := by omega
    simp only [Nat.pow_zero, Nat.mul_one] at hlt
    unfold numF
    rw [if_pos this]
    have hc : (UInt8.ofNat u).toNat = u := by simp; omega
    simp only [List.cons_append, List.nil_append]
    unfold decN
    rw [hc, if_pos ⟨hu, by omega⟩, if_pos this]
  | succ j ih =>
    intro i u r hi hu hlt
    unfold numF
    by_cases h : u < 128
    · rw [if_pos h]
      have hc : (UInt8.ofNat u).toNat = u := by simp; omega
      simp only [List.cons_append, List.nil_append]
      unfold decN
      rw [hc, if_pos ⟨hu, by omega⟩, if_pos h]
    · rw [if_neg h]
      have hc : (UInt8.ofNat (u % 128 + 128)).toNat = u % 128 + 128 := by simp; omega
      simp only [List.cons_append]
      unfold decN
      rw [hc, if_pos ⟨by omega, by omega⟩, if_neg (by omega), ih (i + 1) (u / 128) r (by omega) (by omega) (by rw [Nat.pow_succ] at hlt; omega)]
      simp; omega
theorem decNum_num (u : Nat) (r : List UInt8) (h : u < 18446744073709551616) : decNum (num u ++ r) = some (u, r) :=
  decN_num 9 0 u r rfl (.inl rfl) (by simpa using h)

theorem num_decN (j : Nat) : ∀ i bs u r, i + j = 9 → decN (j + 1) i bs = some (u, r) → bs = numF (j + 1) u ++ r ∧ (i = 0 ∨ u ≠ 0) ∧ u < 2 * 128 ^ j := by
  induction j with
  | zero =>
    intro i bs u r hi h
    cases bs with
    | nil => simp [decN] at h
    | cons c bs =>
      unfold decN at h
      split at h
      · rename_i hc
        have : c.toNat < 128 := by omega
        rw [if_pos this] at h
        simp only [Option.some.injEq, Prod.mk.injEq] at h
        obtain ⟨rfl, rfl⟩ := h
        refine ⟨?_, by omega, by simp; omega⟩
        unfold numF
        rw [if_pos this]
        simp
      · cases h
  | succ j ih =>
    intro i bs u r hi h
    cases bs with
    | nil => simp [decN] at h
    | cons c bs =>
      unfold decN at h
      split at h
      · rename_i hc
        split at h
        · rename_i h128
          simp only [Option.some.injEq, Prod.mk.injEq] at h
          obtain ⟨rfl, rfl⟩ := h
          refine ⟨?_, by omega, ?_⟩
          · unfold numF
            rw [if_pos h128]
            simp
          · have : 0 < 128 ^ j := Nat.pow_pos (by omega)
            rw [Nat.pow_succ]; omega
        · rename_i h128
          cases hd : decN (j + 1) (i + 1) bs with
          | none => rw [hd] at h; cases h
          | some p =>
            obtain ⟨q, r'⟩ := p
            rw [hd] at h
            simp only [Option.map_some, Option.some.injEq, Prod.mk.injEq] at h
            obtain ⟨rfl, rfl⟩ := h
            obtain ⟨hb, hq, hlt⟩ := ih (i + 1) bs q r' (by omega) hd
            have hc256 := c.toNat_lt
            refine ⟨?_, by omega, by rw [Nat.pow_succ]; omega⟩
            unfold numF
            rw [if_neg (by omega)]
            have e1 : (c.toNat - 128 + 128 * q) % 128 + 128 = c.toNat := by omega
            have e2 : (c.toNat - 128 + 128 * q) / 128 = q := by omega
            rw [e1, e2, hb]
            simp
      · cases h
theorem num_decNum {bs : List UInt8} {u : Nat} {r : List UInt8} (h : decNum bs = some (u, r)) : bs = num u ++ r ∧ u < 18446744073709551616 := by
  obtain ⟨a, _, c⟩ := num_decN 9 0 bs u r rfl h
  exact ⟨a, by simpa using c⟩

/- values -/
mutual
def V.ok : V → Bool
  | .mk k n s l => if k = 1 then s.isEmpty && l.isEmpty else if k = 2 then decide (n = 0) && l.isEmpty else if k = 3 then decide (n = 0) && s.isEmpty && V.oks l else false
def V.oks : List V → Bool
  | [] => true
  | v :: l => v.ok && V.oks l
end
mutual
def V.depth : V → Nat
  | .mk k _ _ l => if k = 3 then V.depths l + 1 else 0
def V.depths : List V → Nat
  | [] => 0
  | v :: l => max v.depth (V.depths l)
end
mutual
def V.enc : V → List UInt8
  | .mk k n s l => if k = 1 then 1 :: num (zz n) else if k = 2 then 2 :: (num s.length ++ s) else 3 :: (num l.length ++ V.encs l)
def V.encs : List V → List UInt8
  | [] => []
  | v :: l => v.enc ++ V.encs l
end
mutual
def V.fits : V → Prop
  | .mk k n s l => i64R k ∧ i64R n ∧ s.length < 18446744073709551616 ∧ l.length < 18446744073709551616 ∧ V.fitss l
def V.fitss : List V → Prop
  | [] => True
  | v :: l => v.fits ∧ V.fitss l
end
mutual
def V.same : V → V → Bool
  | .mk k n s l, .mk k' n' s' l' => decide (k = k') && (decide (n = n') && (decide (s = s') && V.sames l l'))
def V.sames : List V → List V → Bool
  | [], [] => true
  | v :: l, v' :: l' => v.same v' && V.sames l l'
  | _, _ => false
end
def V.chk (v : V) : Int := if v.ok then (if 16 < v.depth then 2 else 0) else 1

def decL (f : List UInt8 → Option (V × List UInt8)) : Nat → List UInt8 → Option (List V × List UInt8)
  | 0, r => some ([], r)
  | n + 1, r => match f r with
    | none => none
    | some (v, r1) => match decL f n r1 with
      | none => none
      | some (l, r2) => some (v :: l, r2)
def decText (r : List UInt8) : Option (V × List UInt8) :=
  match decNum r with
  | none => none
  | some (n, r1) => if n ≤ r1.length then some (.mk 2 0 (r1.take n) [], r1.drop n) else none
def decInt (r : List UInt8) : Option (V × List UInt8) :=
  match decNum r with
  | none => none
  | some (u, r1) => some (.mk 1 (unzz u) [] [], r1)
def decList (f : List UInt8 → Option (V × List UInt8)) (r : List UInt8) : Option (V × List UInt8) :=
  match decNum r with
  | none => none
  | some (n, r1) => if n ≤ r1.length then (match decL f n r1 with
    | none => none
    | some (l, r2) => some (.mk 3 0 [] l, r2)) else none
def decV : Nat → List UInt8 → Option (V × List UInt8)
  | _, [] => none
  | d, c :: r => if c.toNat = 1 then decInt r else if c.toNat = 2 then decText r else if c.toNat = 3 then (match d with
      | 0 => none
      | d + 1 => decList (decV d) r) else none
def dec (bs : List UInt8) : Option V :=
  match decV 16 bs with
  | some (v, []) => some v
  | _ => none

/- how many parts a value has -/
mutual
def V.cnt : V → Int → Int
  | .mk _ _ s l, d => if d < 0 ∨ 150 < l.length then 1000 else V.cnts l d (1 + (s.length : Int) / 200)
def V.cnts : List V → Int → Int → Int
  | [], _, acc => acc
  | x :: l, d, acc => if acc ≤ 1000 then V.cnts l d (acc + x.cnt (d - 1)) else acc
end
mutual
def V.texts (B : Nat) : V → Prop
  | .mk _ _ s l => s.length ≤ B ∧ V.textss B l
def V.textss (B : Nat) : List V → Prop
  | [] => True
  | v :: l => v.texts B ∧ V.textss B l
end
mutual
theorem V.cnt_bd : ∀ (v : V) (d : Int), v.texts 140737488351232 → 1 ≤ v.cnt d ∧ v.cnt d ≤ 703687441757 + 1000 * (d + 1).toNat
  | .mk k n s l, d, h => by
    simp only [V.texts] at h
    simp only [V.cnt]
    split
    · omega
    · have := V.cnts_bd l d (1 + (s.length : Int) / 200) h.2 (by omega) (by omega) (by omega)
      omega
theorem V.cnts_bd : ∀ (l : List V) (d acc : Int), V.textss 140737488351232 l → 0 ≤ d → 1 ≤ acc → acc ≤ 703687441757 + 1000 * (d + 1).toNat → 1 ≤ V.cnts l d acc ∧ V.cnts l d acc ≤ 703687441757 + 1000 * (d + 1).toNat
  | [], d, acc, _, _, h1, h2 => by simp only [V.cnts]; omega
  | x :: l, d, acc, ht, hd, h1, h2 => by
    simp only [V.textss] at ht
    simp only [V.cnts]
    split
    · have hx := V.cnt_bd x (d - 1) ht.1
      exact V.cnts_bd l d _ ht.2 hd (by omega) (by omega)
    · omega
end

theorem V.cnts_ge : ∀ (l : List V) (d acc : Int), V.textss 140737488351232 l → acc ≤ V.cnts l d acc
  | [], d, acc, _ => by simp [V.cnts]
  | x :: l, d, acc, ht => by
    simp only [V.textss] at ht
    simp only [V.cnts]
    split
    · have hx := V.cnt_bd x (d - 1) ht.1
      have := V.cnts_ge l d (acc + x.cnt (d - 1)) ht.2
      omega
    · omega
/- a value with few parts is neither deep nor long -/
mutual
theorem V.few : ∀ (v : V) (d : Int), v.texts 140737488351232 → v.cnt d ≤ 200 → 0 ≤ d ∧ (v.depth : Int) ≤ d + 1 ∧ (v.enc.length : Int) ≤ 211 * v.cnt d
  | .mk k n s l, d, ht, h => by
    simp only [V.texts] at ht
    simp only [V.cnt] at h ⊢
    split at h
    · omega
    · rename_i hd
      rw [if_neg hd]
      obtain ⟨h1, h2⟩ := V.fews l d (1 + (s.length : Int) / 200) ht.2 (by omega) h
      refine ⟨by omega, ?_, ?_⟩
      · simp only [V.depth]
        split <;> omega
      · have hz := num_le (zz n)
        have hs := num_le s.length
        have hl := num_le l.length
        have hg := V.cnts_ge l d (1 + (s.length : Int) / 200) ht.2
        simp only [V.enc]
        split
        · simp only [List.length_cons]; omega
        · split
          · simp only [List.length_cons, List.length_append]; omega
          · simp only [List.length_cons, List.length_append]; omega
theorem V.fews : ∀ (l : List V) (d acc : Int), V.textss 140737488351232 l → 0 ≤ acc → V.cnts l d acc ≤ 200 → (V.depths l : Int) ≤ d.toNat ∧ ((V.encs l).length : Int) ≤ 211 * (V.cnts l d acc - acc)
  | [], d, acc, _, _, h => by simp [V.depths, V.encs, V.cnts]; omega
  | x :: l, d, acc, ht, h0, h => by
    simp only [V.textss] at ht
    simp only [V.cnts] at h ⊢
    split at h
    · rename_i ha
      rw [if_pos ha]
      have hg := V.cnts_ge l d (acc + x.cnt (d - 1)) ht.2
      have hp := V.cnt_bd x (d - 1) ht.1
      obtain ⟨a1, a2, a3⟩ := V.few x (d - 1) ht.1 (by omega)
      obtain ⟨b1, b2⟩ := V.fews l d (acc + x.cnt (d - 1)) ht.2 (by omega) h
      simp only [V.depths, V.encs, List.length_append]
      omega
    · omega
end

/- equality -/
mutual
theorem V.same_eq : ∀ a b : V, V.same a b = true ↔ a = b
  | .mk k n s l, .mk k' n' s' l' => by
    simp only [V.same, Bool.and_eq_true, decide_eq_true_eq, V.mk.injEq]
    rw [V.sames_eq l l']
theorem V.sames_eq : ∀ a b : List V, V.sames a b = true ↔ a = b
  | [], [] => by simp [V.sames]
  | [], _ :: _ => by simp [V.sames]
  | _ :: _, [] => by simp [V.sames]
  | v :: l, v' :: l' => by
    simp only [V.sames, Bool.and_eq_true, List.cons.injEq]
    rw [V.same_eq v v', V.sames_eq l l']
end
theorem V.same_refl (a : V) : V.same a a = true := (V.same_eq a a).2 rfl

/- an encoding has at least two bytes; a list's has one for each element -/
theorem V.enc_pos (v : V) : 1 ≤ v.enc.length := by
  obtain ⟨k, n, s, l⟩ := v
  unfold V.enc
  split
  · simp
  · split <;> simp
theorem V.encs_len : ∀ l : List V, l.length ≤ (V.encs l).length
  | [] => by simp
  | v :: l => by
    have := V.encs_len l
    have := V.enc_pos v
    simp only [V.encs, List.length_append, List.length_cons]; omega

mutual
theorem V.dec_enc : ∀ (v : V) (d : Nat) (r : List UInt8), v.ok = true → v.depth ≤ d → v.fits → decV d (v.enc ++ r) = some (v, r)
  | .mk k n s l, d, r, ho, hd, hf => by
    simp only [V.fits] at hf
    obtain ⟨hk, hn, hs, hl, hfs⟩ := hf
    simp only [V.ok] at ho
    unfold V.enc
    by_cases h1 : k = 1
    · rw [if_pos h1] at ho ⊢
      simp only [Bool.and_eq_true, List.isEmpty_iff] at ho
      obtain ⟨rfl, rfl⟩ := ho
      subst h1
      simp only [List.cons_append]
      unfold decV
      rw [if_pos (by decide)]
      unfold decInt
      rw [decNum_num _ _ (zz_lt hn)]
      simp [unzz_zz]
    · rw [if_neg h1] at ho ⊢
      by_cases h2 : k = 2
      · rw [if_pos h2] at ho ⊢
        simp only [Bool.and_eq_true, List.isEmpty_iff, decide_eq_true_eq] at ho
        obtain ⟨rfl, rfl⟩ := ho
        subst h2
        simp only [List.cons_append, List.append_assoc]
        unfold decV
        rw [if_neg (by decide), if_pos (by decide)]
        unfold decText
        rw [decNum_num _ _ hs]
        simp
      · rw [if_neg h2] at ho ⊢
        by_cases h3 : k = 3
        · rw [if_pos h3] at ho
          simp only [Bool.and_eq_true, List.isEmpty_iff, decide_eq_true_eq] at ho
          obtain ⟨⟨rfl, rfl⟩, hoks⟩ := ho
          subst h3
          simp only [V.depth, if_true] at hd
          simp only [List.cons_append, List.append_assoc]
          cases d with
          | zero => omega
          | succ d =>
            unfold decV
            rw [if_neg (by decide), if_neg (by decide), if_pos (by decide)]
            show decList (decV d) _ = _
            unfold decList
            rw [decNum_num _ _ hl]
            simp only
            have hle := V.encs_len l
            rw [if_pos (by simp; omega), V.decs_encs l d r hoks (by omega) hfs]
        · rw [if_neg h3] at ho; cases ho
theorem V.decs_encs : ∀ (l : List V) (d : Nat) (r : List UInt8), V.oks l = true → V.depths l ≤ d → V.fitss l → decL (decV d) l.length (V.encs l ++ r) = some (l, r)
  | [], d, r, _, _, _ => by simp [decL, V.encs]
  | v :: l, d, r, ho, hd, hf => by
    simp only [V.oks, Bool.and_eq_true] at ho
    simp only [V.depths] at hd
    simp only [V.fitss] at hf
    simp only [List.length_cons, V.encs, List.append_assoc]
    unfold decL
    rw [V.dec_enc v d _ ho.1 (by omega) hf.1]
    simp only
    rw [V.decs_encs l d r ho.2 (by omega) hf.2]
end

theorem V.enc_dec (d : Nat) : ∀ bs v r, bs.length < 18446744073709551616 → decV d bs = some (v, r) → bs = v.enc ++ r ∧ v.ok = true ∧ v.depth ≤ d ∧ v.fits := by
  have H : ∀ d, (∀ bs v r, bs.length < 18446744073709551616 → decV d bs = some (v, r) → bs = v.enc ++ r ∧ v.ok = true ∧ v.depth ≤ d ∧ v.fits) := by
    intro d
    induction d with
    | zero =>
      intro bs v r hlen h
      cases bs with
      | nil => simp [decV] at h
      | cons c bs =>
        unfold decV at h
        simp only [List.length_cons] at hlen
        split at h
        · rename_i hc
          unfold decInt at h
          split at h
          · cases h
          · rename_i u r1 hd
            simp only [Option.some.injEq, Prod.mk.injEq] at h
            obtain ⟨rfl, rfl⟩ := h
            obtain ⟨e, hu⟩ := num_decNum hd
            have ec : c = 1 := by apply UInt8.toNat_inj.1; simpa using hc
            refine ⟨?_, by simp [V.ok], by simp [V.depth], ?_⟩
            · rw [e, ec]; simp [V.enc, zz_unzz]
            · simp [V.fits, V.fitss, i64R]; have := unzz_R hu; unfold i64R at this; omega
        · split at h
          · rename_i hc1 hc
            unfold decText at h
            split at h
            · cases h
            · rename_i u r1 hd
              split at h
              · rename_i hle
                simp only [Option.some.injEq, Prod.mk.injEq] at h
                obtain ⟨rfl, rfl⟩ := h
                obtain ⟨e, hu⟩ := num_decNum hd
                have ec : c = 2 := by apply UInt8.toNat_inj.1; simpa using hc
                have hmin : min u r1.length = u := by omega
                refine ⟨?_, by simp [V.ok], by simp [V.depth], ?_⟩
                · rw [e, ec]; simp [V.enc, hmin]
                · simp [V.fits, V.fitss, i64R]; omega
              · cases h
          · split at h
            · cases h
            · cases h
    | succ d ih =>
      intro bs v r hlen h
      cases bs with
      | nil => simp [decV] at h
      | cons c bs =>
        unfold decV at h
        simp only [List.length_cons] at hlen
        split at h
        · rename_i hc
          unfold decInt at h
          split at h
          · cases h
          · rename_i u r1 hd
            simp only [Option.some.injEq, Prod.mk.injEq] at h
            obtain ⟨rfl, rfl⟩ := h
            obtain ⟨e, hu⟩ := num_decNum hd
            have ec : c = 1 := by apply UInt8.toNat_inj.1; simpa using hc
            refine ⟨?_, by simp [V.ok], by simp [V.depth], ?_⟩
            · rw [e, ec]; simp [V.enc, zz_unzz]
            · simp [V.fits, V.fitss, i64R]; have := unzz_R hu; unfold i64R at this; omega
        · split at h
          · rename_i hc1 hc
            unfold decText at h
            split at h
            · cases h
            · rename_i u r1 hd
              split at h
              · rename_i hle
                simp only [Option.some.injEq, Prod.mk.injEq] at h
                obtain ⟨rfl, rfl⟩ := h
                obtain ⟨e, hu⟩ := num_decNum hd
                have ec : c = 2 := by apply UInt8.toNat_inj.1; simpa using hc
                have hmin : min u r1.length = u := by omega
                refine ⟨?_, by simp [V.ok], by simp [V.depth], ?_⟩
                · rw [e, ec]; simp [V.enc, hmin]
                · simp [V.fits, V.fitss, i64R]; omega
              · cases h
          · split at h
            · rename_i hc1 hc2 hc
              change decList (decV d) bs = some (v, r) at h
              unfold decList at h
              split at h
              · cases h
              · rename_i n r1 hd
                split at h
                · rename_i hle
                  split at h
                  · cases h
                  · rename_i l r2 hl
                    simp only [Option.some.injEq, Prod.mk.injEq] at h
                    obtain ⟨rfl, rfl⟩ := h
                    obtain ⟨e, hu⟩ := num_decNum hd
                    have ec : c = 3 := by apply UInt8.toNat_inj.1; simpa using hc
                    have hlr : r1.length ≤ bs.length := by rw [e]; simp
                    obtain ⟨e2, o2, d2, f2, n2⟩ := decL_sub d ih n r1 l r2 (by omega) hl
                    subst n2
                    refine ⟨?_, by simp [V.ok, o2], by simp [V.depth]; omega, ?_⟩
                    · rw [e, e2, ec]; simp [V.enc]
                    · simp [V.fits, i64R, f2]; omega
                · cases h
            · cases h
  exact H d
 where
  decL_sub (d : Nat) (ih : ∀ bs v r, bs.length < 18446744073709551616 → decV d bs = some (v, r) → bs = v.enc ++ r ∧ v.ok = true ∧ v.depth ≤ d ∧ v.fits) :
      ∀ (n : Nat) (bs : List UInt8) (l : List V) (r : List UInt8), bs.length < 18446744073709551616 → decL (decV d) n bs = some (l, r) → bs = V.encs l ++ r ∧ V.oks l = true ∧ V.depths l ≤ d ∧ V.fitss l ∧ l.length = n
    | 0, bs, l, r, _, h => by
      simp only [decL, Option.some.injEq, Prod.mk.injEq] at h
      obtain ⟨rfl, rfl⟩ := h
      simp [V.encs, V.oks, V.depths, V.fitss]
    | n + 1, bs, l, r, hb, h => by
      unfold decL at h
      split at h
      · cases h
      · rename_i v r1 hv
        split at h
        · cases h
        · rename_i l' r2 hl
          simp only [Option.some.injEq, Prod.mk.injEq] at h
          obtain ⟨rfl, rfl⟩ := h
          obtain ⟨e1, o1, d1, f1⟩ := ih _ _ _ hb hv
          have hr1 : r1.length ≤ bs.length := by rw [e1]; simp
          obtain ⟨e2, o2, d2, f2, n2⟩ := decL_sub d ih n _ _ _ (by omega) hl
          refine ⟨?_, by simp [V.oks, o1, o2], by simp only [V.depths]; omega, ⟨f1, f2⟩, by simp [n2]⟩
          rw [e1, e2]; simp [V.encs]
end Go.Proofs.Ytedkoifbjmemdaa
