/- the links that are cut: counted out, plainly -/
import Derived.Test.YtmlhpchabnajkaaNetPlain
namespace Go.Proofs.Ytmlhpchabnajkaa
set_option linter.unusedSimpArgs false
set_option linter.unusedVariables false
def rowAcc (f : Int × Int → Bool) (x : Nat) : Nat → List (Int × Int)
  | 0 => []
  | k + 1 => rowAcc f x k ++ (if x < k ∧ f ((x : Int), (k : Int)) = true then [((x : Int), (k : Int))] else [])
def colAcc (f : Int × Int → Bool) : Nat → List (Int × Int)
  | 0 => []
  | x + 1 => colAcc f x ++ rowAcc f x 24
theorem rowAcc_low (f : Int × Int → Bool) (x : Nat) : ∀ {k : Nat}, k ≤ x + 1 → rowAcc f x k = []
  | 0, _ => rfl
  | k + 1, h => by rw [rowAcc, rowAcc_low f x (by omega), if_neg (by omega)]; rfl
theorem rowAcc_eq (f : Int × Int → Bool) (x : Nat) : ∀ k : Nat, rowAcc f x k = ((List.range k).filterMap fun b => if x < b then some ((x : Int), (b : Int)) else none).filter f
  | 0 => rfl
  | k + 1 => by
    rw [rowAcc, rowAcc_eq f x k, List.range_succ, List.filterMap_append, List.filter_append]
    congr 1
    by_cases h : x < k
    · by_cases h2 : f ((x : Int), (k : Int)) = true
      · simp [h, h2]
      · simp [h, h2]
    · simp [h]
theorem colAcc_eq (f : Int × Int → Bool) : ∀ x : Nat, colAcc f x = ((List.range x).flatMap rowsOf).filter f
  | 0 => rfl
  | x + 1 => by
    rw [colAcc, colAcc_eq f x, List.range_succ, List.flatMap_append, List.filter_append, rowAcc_eq]
    congr 1
    simp [rowsOf]
theorem cutL_eq (l : List (Int × Int)) (c : Int × Int) (on : Bool) : cutL l c on = colAcc (keepB l c on) 24 := (colAcc_eq _ 24).symm
theorem rowAcc_len (f : Int × Int → Bool) (x : Nat) : ∀ k : Nat, (rowAcc f x k).length ≤ k
  | 0 => Nat.le_refl _
  | k + 1 => by
    have := rowAcc_len f x k
    rw [rowAcc, List.length_append]
    split <;> simp <;> omega
theorem colAcc_len (f : Int × Int → Bool) : ∀ k : Nat, (colAcc f k).length ≤ k * 24
  | 0 => Nat.le_refl _
  | k + 1 => by
    have := colAcc_len f k
    have := rowAcc_len f k 24
    rw [colAcc, List.length_append]
    omega
theorem keepB_in (l : List (Int × Int)) (on : Bool) {a b x y : Int} (hxy : x < y) : keepB l (linkOf a b) on (x, y) = if x = min a b ∧ y = max a b then on else cutB l x y := by
  unfold keepB cutB linkOf
  rw [Int.min_eq_left (by omega : x ≤ y), Int.max_eq_right (by omega : x ≤ y)]
  simp only [Prod.mk.injEq]
theorem rowAcc_step (f : Int × Int → Bool) (x k : Nat) (h : x < k) {b : Bool} (hb : f ((x : Int), (k : Int)) = b) : rowAcc f x (k + 1) = rowAcc f x k ++ (if b then [((x : Int), (k : Int))] else []) := by
  subst hb
  rw [rowAcc]
  congr 1
  by_cases h2 : f ((x : Int), (k : Int)) = true <;> simp [h, h2]
theorem cutE_bad {n : NetM} {a b : Int} (h : netB n = false) : cutE n a b = 60 := by unfold cutE; rw [h]; rfl
theorem cutE_arg {n : NetM} {a b : Int} (h : netB n = true) (h2 : ¬ (siteB a = true ∧ siteB b = true ∧ a ≠ b)) : cutE n a b = 1 := by
  unfold cutE validB; rw [h]
  unfold siteB at h2
  simp only [Bool.and_eq_true, decide_eq_true_eq] at h2
  rw [if_pos rfl, if_neg]
  simp only [Bool.and_eq_true, decide_eq_true_eq]
  omega
theorem cutE_ok {n : NetM} {a b : Int} (h : netB n = true) (h1 : siteB a = true) (h2 : siteB b = true) (h3 : a ≠ b) : cutE n a b = 0 := by
  unfold cutE validB; rw [h]
  unfold siteB at h1 h2
  simp only [Bool.and_eq_true, decide_eq_true_eq] at h1 h2
  rw [if_pos rfl, if_pos]
  simp only [Bool.and_eq_true, decide_eq_true_eq]
  omega
theorem cutN_err {n : NetM} {a b : Int} {on : Bool} (h : cutE n a b ≠ 0) : cutN n a b on = .nil := by unfold cutN; rw [if_neg h]
theorem cutN_ok {n : NetM} {a b : Int} {on : Bool} (h : cutE n a b = 0) : cutN n a b on = ⟨n.queue, colAcc (keepB n.apart (linkOf a b) on) 24⟩ := by unfold cutN; rw [if_pos h, cutL_eq]
end Go.Proofs.Ytmlhpchabnajkaa
