/- what the laws need, plainly -/
import Derived.Test.YtmlhpchabnajkaaNetHap
namespace Go.Proofs.Ytmlhpchabnajkaa
set_option linter.unusedSimpArgs false
set_option linter.unusedVariables false
theorem samePktB_refl (p : Pkt) : samePktB p p = true := by simp [samePktB]
theorem sameQ_refl : ∀ l : List Pkt, sameQ l l = true
  | [] => rfl
  | p :: l => by simp [sameQ, samePktB_refl, sameQ_refl l]
theorem sameB_refl (n : NetM) : sameB n n = true := by simp [sameB, sameQ_refl]
theorem chk_netB {n : NetM} (h : chk n = 0) : netB n = true := by
  unfold chk at h
  by_cases hb : netB n = true
  · exact hb
  · rw [if_neg hb] at h; omega
theorem netB_chk {n : NetM} (h : netB n = true) : chk n = 0 := by unfold chk; rw [if_pos h]
theorem netB_parts {n : NetM} (h : netB n = true) : n.queue.length ≤ 4096 ∧ n.queue.all pktB = true ∧ apartB n.apart = true := by
  unfold netB at h
  simp only [Bool.and_eq_true, decide_eq_true_eq] at h
  exact ⟨h.1.1, h.1.2, h.2⟩
theorem netB_of {n : NetM} (h : n.queue.length ≤ 4096) (h1 : n.queue.all pktB = true) (h2 : apartB n.apart = true) : netB n = true := by
  unfold netB; rw [h1, h2]; simp [h]
theorem fewB_parts {n : NetM} (h : fewB n = true) : n.queue.length ≤ 40 ∧ n.apart.length ≤ 40 := by
  unfold fewB at h
  simpa [Bool.and_eq_true, decide_eq_true_eq] using h
theorem askE_in {n : NetM} {i : Nat} (h : netB n = true) (hi : i < n.queue.length) : askE n i = 0 := by
  unfold askE; rw [if_pos h, if_pos ⟨by omega, by omega⟩]
theorem askE_bad {n : NetM} {i : Int} (h : netB n = false) : askE n i = 60 := by unfold askE; rw [h]; rfl
theorem loseN_in {n : NetM} {i : Nat} (h : netB n = true) (hi : i < n.queue.length) : loseN n i = dropAt n i := by
  unfold loseN; rw [if_pos (askE_in h hi)]; simp
theorem atP_in {n : NetM} {i : Nat} (h : netB n = true) (hi : i < n.queue.length) : atP n i = n.queue[i] := by
  unfold atP; rw [if_pos (askE_in h hi)]; simp [hi]
theorem all_get {l : List Pkt} (h : l.all pktB = true) {i : Nat} (hi : i < l.length) : pktB l[i] = true := List.all_eq_true.1 h _ (List.getElem_mem _)
theorem sendE_in {n : NetM} {p : Pkt} (h : netB n = true) (hp : pktB p = true) (hl : n.queue.length < 4096) : sendE n p = 0 := by
  unfold sendE; rw [h, hp]; simp; omega
theorem sendN_in {n : NetM} {p : Pkt} (h : netB n = true) (hp : pktB p = true) (hl : n.queue.length < 4096) : sendN n p = ⟨n.queue ++ [p], n.apart⟩ := by
  unfold sendN; rw [if_pos (sendE_in h hp hl)]
theorem drop_valid {n : NetM} {i : Nat} (h : netB n = true) (hi : i < n.queue.length) : netB (dropAt n i) = true ∧ (dropAt n i).queue.length + 1 = n.queue.length := by
  obtain ⟨h1, h2, h3⟩ := netB_parts h
  have hl : (dropAt n i).queue.length + 1 = n.queue.length := by simp [dropAt]; omega
  refine ⟨netB_of (by omega) ?_ h3, hl⟩
  rw [List.all_eq_true] at h2 ⊢
  intro p hp
  simp only [dropAt, List.mem_append] at hp
  exact h2 p (hp.elim List.mem_of_mem_take List.mem_of_mem_drop)
theorem more_valid {n : NetM} {p : Pkt} (h : netB n = true) (hp : pktB p = true) (hl : n.queue.length < 4096) : netB ⟨n.queue ++ [p], n.apart⟩ = true := by
  obtain ⟨h1, h2, h3⟩ := netB_parts h
  exact netB_of (by simp; omega) (by simp [h2, hp]) h3
/-- NetworkLost -/
theorem lost_plain (n : NetM) (i : Nat) (hi : i < n.queue.length) (hc : chk n = 0) (hf : fewB n = true) :
    askE n i = 0 ∧ repE n i = 0 ∧ askE (repN n i) i = 0 ∧ sendE (loseN n i) n.queue[i] = 0 ∧ loseN (repN n i) i = sendN (loseN n i) n.queue[i] ∧ (repN n i).queue.length = n.queue.length + 1 := by
  have h := chk_netB hc
  obtain ⟨f1, _⟩ := fewB_parts hf
  obtain ⟨h1, h2, h3⟩ := netB_parts h
  have ha := askE_in h hi
  have hp := all_get h2 hi
  have hr : repN n i = ⟨n.queue ++ [n.queue[i]], n.apart⟩ := by unfold repN; rw [if_pos ha, atP_in h hi, sendN_in h hp (by omega)]
  have hv := more_valid h hp (by omega)
  have hi' : i < (n.queue ++ [n.queue[i]]).length := by simp; omega
  obtain ⟨d1, d2⟩ := drop_valid h hi
  refine ⟨ha, by unfold repE; rw [if_pos ha, atP_in h hi, sendE_in h hp (by omega)], by rw [hr]; exact askE_in hv hi', by rw [loseN_in h hi]; exact sendE_in d1 hp (by omega), ?_, by rw [hr]; simp⟩
  rw [hr, loseN_in hv hi', loseN_in h hi, sendN_in d1 hp (by omega)]
  simp only [dropAt, NetM.mk.injEq, and_true]
  rw [List.take_append_of_le_length (by omega), List.drop_append_of_le_length (by omega), List.append_assoc]
end Go.Proofs.Ytmlhpchabnajkaa
