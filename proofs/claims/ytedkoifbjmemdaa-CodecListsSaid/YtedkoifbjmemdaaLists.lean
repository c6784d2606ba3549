/- lists: plain facts for CodecLists -/
import Derived.Test.YtedkoifbjmemdaaLaw7
namespace Go.Proofs.Ytedkoifbjmemdaa
open Go.RowKit
def lv (l : List V) : V := .mk 3 0 [] l
theorem lv_depth (l : List V) : (lv l).depth = V.depths l + 1 := by simp [lv, V.depth]
theorem lv_ok (l : List V) : (lv l).ok = V.oks l := by simp [lv, V.ok]
theorem lv_enc (l : List V) : (lv l).enc = 3 :: (num l.length ++ V.encs l) := by simp [lv, V.enc]
theorem encs_app : ∀ l l' : List V, V.encs (l ++ l') = V.encs l ++ V.encs l'
  | [], l' => by simp [V.encs]
  | v :: l, l' => by simp only [List.cons_append, V.encs]; rw [encs_app l l', List.append_assoc]
theorem encs_take (l : List V) (k : Nat) (h : k < l.length) : V.encs (l.take (k + 1)) = V.encs (l.take k) ++ l[k].enc := by
  rw [List.take_succ_eq_append_getElem h, encs_app]
  simp [V.encs]
theorem oks_of : ∀ l : List V, (∀ v ∈ l, v.ok = true) → V.oks l = true
  | [], _ => by simp [V.oks]
  | v :: l, h => by
    simp only [V.oks, Bool.and_eq_true]
    exact ⟨h v (by simp), oks_of l (fun x hx => h x (List.mem_cons_of_mem _ hx))⟩
theorem oks_mem : ∀ l : List V, V.oks l = true → ∀ v ∈ l, v.ok = true
  | [], _, v, h => by cases h
  | x :: l, h, v, hv => by
    simp only [V.oks, Bool.and_eq_true] at h
    rcases List.mem_cons.1 hv with rfl | hv
    · exact h.1
    · exact oks_mem l h.2 v hv
theorem depths_le {d : Nat} : ∀ l : List V, (∀ v ∈ l, v.depth ≤ d) → V.depths l ≤ d
  | [], _ => by simp [V.depths]
  | v :: l, h => by
    simp only [V.depths]
    have := h v (by simp)
    have := depths_le l (fun x hx => h x (List.mem_cons_of_mem _ hx))
    omega
theorem depths_mem : ∀ l : List V, ∀ v ∈ l, v.depth ≤ V.depths l
  | [], v, h => by cases h
  | x :: l, v, hv => by
    simp only [V.depths]
    rcases List.mem_cons.1 hv with rfl | hv
    · omega
    · have := depths_mem l v hv
      omega
theorem encs_le {m : Nat} : ∀ l : List V, (∀ v ∈ l, v.enc.length ≤ m) → (V.encs l).length ≤ l.length * m
  | [], _ => by simp [V.encs]
  | v :: l, h => by
    simp only [V.encs, List.length_append, List.length_cons, Nat.add_mul]
    have := h v (by simp)
    have := encs_le l (fun x hx => h x (List.mem_cons_of_mem _ hx))
    omega
theorem textss_mem {B : Nat} : ∀ {l : List V}, V.textss B l → ∀ v ∈ l, v.texts B
  | [], _, v, h => by cases h
  | x :: l, h, v, hv => by
    simp only [V.textss] at h
    rcases List.mem_cons.1 hv with rfl | hv
    · exact h.1
    · exact textss_mem h.2 v hv
theorem few_each {l : List V} (ht : V.textss 140737488351232 l) (hf : fewB l = true) : ∀ v ∈ l, v.depth ≤ 21 ∧ v.enc.length ≤ 42200 := fun v hv => by
  unfold fewB at hf
  have h1 := List.all_eq_true.1 hf v hv
  have h2 : v.cnt 20 ≤ 200 := by simpa using h1
  obtain ⟨_, h3, h4⟩ := V.few v 20 (textss_mem ht v hv) h2
  omega
theorem lv_small {l : List V} (ht : V.textss 140737488351232 l) (hf : fewB l = true) (hl : l.length ≤ 20) : (lv l).depth ≤ 1000000 ∧ (lv l).enc.length ≤ 1000000 ∧ (V.encs l).length ≤ 844000 := by
  have h := few_each ht hf
  have h1 := depths_le l (fun v hv => (h v hv).1)
  have h2 := encs_le l (fun v hv => (h v hv).2)
  have h3 := num_le l.length
  have h4 : l.length * 42200 ≤ 20 * 42200 := Nat.mul_le_mul_right _ hl
  rw [lv_depth, lv_enc, List.length_cons, List.length_append]
  omega
theorem lv_bad {l : List V} {v : V} (hv : v ∈ l) (h : v.chk ≠ 0) : (lv l).chk ≠ 0 := fun e => h (by
  obtain ⟨h1, h2⟩ := chk_zero e
  rw [lv_ok] at h1
  rw [lv_depth] at h2
  have h3 := oks_mem l h1 v hv
  have h4 := depths_mem l v hv
  rw [V.chk_of, if_pos h3, if_neg (by omega)])
theorem lv_good {l : List V} (h : ∀ v ∈ l, v.chk = 0) : (lv l).chk = 0 ∨ (lv l).chk = 2 := by
  have h1 := oks_of l (fun v hv => (chk_zero (h v hv)).1)
  rw [V.chk_of, if_pos (by rw [lv_ok]; exact h1)]
  split
  · exact .inr rfl
  · exact .inl rfl
def zv : V := .mk 1 0 [] []
theorem zv_enc : zv.enc.length = 2 := by decide
theorem zl_encs (n : Nat) : (V.encs (List.replicate n zv)).length = 2 * n := by
  induction n with
  | zero => simp [V.encs]
  | succ n ih =>
    rw [List.replicate_succ]
    simp only [V.encs, List.length_append]
    rw [ih, zv_enc]
    omega
theorem zl_chk (n : Nat) : (lv (List.replicate n zv)).chk = 0 := by
  have h1 : V.oks (List.replicate n zv) = true := oks_of _ (fun v hv => by rw [(List.mem_replicate.1 hv).2]; decide)
  have h2 : V.depths (List.replicate n zv) ≤ 0 := depths_le _ (fun v hv => by rw [(List.mem_replicate.1 hv).2]; decide)
  rw [V.chk_of, if_pos (by rw [lv_ok]; exact h1), if_neg (by rw [lv_depth]; omega)]
theorem zl_out (n : Nat) : (lv (List.replicate n zv)).out.length = 1 + (num n).length + 2 * n := by
  rw [out_zero (zl_chk n), lv_enc, List.length_cons, List.length_append, zl_encs, List.length_replicate]
  omega
theorem lv_rep {W : World} {l : List V} {a : Option Addr} {cap : Nat} (h : RepL W l a) (h1 : l.length ≤ cap) (h2 : l.length ≤ 140737488351232) : RepV W (lv l) (.agg #[.int .i64 3, .int .i64 0, .string ⟨#[]⟩, .slice a l.length cap]) := by
  unfold lv
  simp only [RepV, List.length_nil]
  exact ⟨a, cap, rfl, by unfold i64R; omega, by unfold i64R; omega, by omega, h1, h2, h⟩
end Go.Proofs.Ytedkoifbjmemdaa
