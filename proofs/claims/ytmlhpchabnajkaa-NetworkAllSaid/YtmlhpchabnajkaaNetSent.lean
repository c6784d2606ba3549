/- what is delivered has been sent, plainly -/
import Derived.Test.YtmlhpchabnajkaaNetCuts
namespace Go.Proofs.Ytmlhpchabnajkaa
set_option linter.unusedSimpArgs false
set_option linter.unusedVariables false
structure SentInv (m : NetM) (sent : List Pkt) (cuts : Nat) : Prop where
  ok : netB m = true
  sub : ∀ p ∈ m.queue, p ∈ sent
  cut : m.apart ≠ [] → 0 < cuts
theorem hapK_lt (mv : Mv) : hapK mv < 6 := Nat.mod_lt _ (by decide)
theorem hap_bad {m : NetM} {mv : Mv} (h : hapE m mv ≠ 0) : hapN m mv = .nil := by
  have hk := hapK_lt mv
  unfold hapE at h
  unfold hapN
  generalize hapK mv = k at *
  match k, hk with
  | 0, _ => simp only [] at h ⊢; unfold sendN; rw [if_neg h]
  | 1, _ => simp only [] at h ⊢; unfold loseN; rw [if_neg h]
  | 2, _ => simp only [] at h ⊢; unfold loseN; rw [if_neg h]
  | 3, _ =>
    simp only [] at h ⊢
    unfold repN
    by_cases ha : askE m (hapAt m mv) = 0
    · rw [if_pos ha]
      unfold repE at h
      rw [if_pos ha] at h
      unfold sendN
      rw [if_neg h]
    · rw [if_neg ha]
  | 4, _ => simp only [] at h ⊢; unfold cutN; rw [if_neg h]
  | 5, _ => simp only [] at h ⊢; unfold cutN; rw [if_neg h]
theorem send_ok {m : NetM} {p : Pkt} (h : sendE m p = 0) : netB m = true ∧ pktB p = true ∧ m.queue.length < 4096 := by
  unfold sendE at h
  by_cases hb : (netB m && pktB p) = true
  · rw [if_pos hb] at h
    rw [Bool.and_eq_true] at hb
    have := (netB_parts hb.1).1
    refine ⟨hb.1, hb.2, ?_⟩
    by_cases hl : m.queue.length = 4096
    · rw [if_pos hl] at h; omega
    · omega
  · rw [if_neg hb] at h; omega
theorem ask_ok {m : NetM} {i : Int} (h : askE m i = 0) : netB m = true ∧ ∃ k : Nat, i = k ∧ k < m.queue.length := by
  unfold askE at h
  by_cases hb : netB m = true
  · rw [if_pos hb] at h
    by_cases hi : 0 ≤ i ∧ i < m.queue.length
    · exact ⟨hb, i.toNat, by omega, by omega⟩
    · rw [if_neg hi] at h; omega
  · rw [if_neg hb] at h; omega
theorem sent_push {m : NetM} {sent : List Pkt} {cuts : Nat} {q : Pkt} (h : SentInv m sent cuts) (he : sendE m q = 0) : sendN m q = ⟨m.queue ++ [q], m.apart⟩ ∧ SentInv ⟨m.queue ++ [q], m.apart⟩ (sent ++ [q]) cuts ∧ (q ∈ sent → SentInv ⟨m.queue ++ [q], m.apart⟩ sent cuts) := by
  obtain ⟨h1, h2, h3⟩ := send_ok he
  refine ⟨sendN_in h1 h2 h3, ⟨more_valid h1 h2 h3, fun p hp => ?_, h.cut⟩, fun hq => ⟨more_valid h1 h2 h3, fun p hp => ?_, h.cut⟩⟩
  · rcases List.mem_append.1 hp with hp | hp
    · exact List.mem_append_left _ (h.sub p hp)
    · exact List.mem_append_right _ hp
  · rcases List.mem_append.1 hp with hp | hp
    · exact h.sub p hp
    · rw [List.mem_singleton.1 hp]; exact hq
theorem sent_lose {m : NetM} {sent : List Pkt} {cuts : Nat} {i : Int} (h : SentInv m sent cuts) (he : askE m i = 0) : SentInv (loseN m i) sent cuts := by
  obtain ⟨h1, k, rfl, hk⟩ := ask_ok he
  rw [loseN_in h1 hk]
  refine ⟨(drop_valid h1 hk).1, fun p hp => ?_, h.cut⟩
  simp only [dropAt, List.mem_append] at hp
  exact h.sub p (hp.elim List.mem_of_mem_take List.mem_of_mem_drop)
theorem any_same {sent : List Pkt} {p : Pkt} (h : p ∈ sent) : sent.any (fun s => samePktB s p) = true := List.any_eq_true.2 ⟨p, h, samePktB_refl p⟩
theorem sent_met {m : NetM} {sent : List Pkt} {cuts : Nat} {i : Int} (h : SentInv m sent cuts) (he : askE m i = 0) : ((samePktB (delP m i) .nil && decide (0 < cuts)) || sent.any (fun s => samePktB s (delP m i))) = true := by
  obtain ⟨h1, k, rfl, hk⟩ := ask_ok he
  rw [delP_in h1 hk]
  cases hc : cutB m.apart m.queue[k].src m.queue[k].dst
  · simp only [Bool.false_eq_true, if_false, Bool.or_eq_true]
    exact .inr (any_same (h.sub _ (List.getElem_mem _)))
  · simp only [if_true, Bool.or_eq_true, Bool.and_eq_true, decide_eq_true_eq]
    refine .inl ⟨rfl, h.cut fun e => ?_⟩
    rw [e] at hc
    cases hc
theorem cut_inv {m : NetM} {sent : List Pkt} {cuts : Nat} {a b : Int} {on : Bool} (h : SentInv m sent cuts) (he : cutE m a b = 0) : SentInv (cutN m a b on) sent (if on then cuts + 1 else cuts) := by
  have hv := cut_valid on h.ok he
  refine ⟨hv, fun p hp => h.sub p (by rw [cutN_of on he] at hp; exact hp), fun hne => ?_⟩
  cases on
  · simp only [Bool.false_eq_true, if_false]
    refine h.cut fun e => hne ?_
    rw [cutN_of false he]
    simp only [cutL, e]
    rw [List.filter_eq_nil_iff]
    intro p _
    unfold keepB
    split <;> simp
  · simp
theorem hap_ok {m : NetM} {mv : Mv} {sent : List Pkt} {cuts : Nat} (h : SentInv m sent cuts) (he : hapE m mv = 0) :
    (hapK mv = 0 → ∃ q, hapN m mv = ⟨m.queue ++ [q], m.apart⟩ ∧ SentInv (hapN m mv) (sent ++ [q]) cuts) ∧
    (hapK mv = 1 → ((samePktB (hapP m mv) .nil && decide (0 < cuts)) || sent.any (fun s => samePktB s (hapP m mv))) = true) ∧
    (hapK mv ≠ 0 → hapK mv ≠ 4 → SentInv (hapN m mv) sent cuts) ∧ (hapK mv = 4 → SentInv (hapN m mv) sent (cuts + 1)) := by
  have hk := hapK_lt mv
  unfold hapE at he
  unfold hapN hapP
  generalize hapK mv = k at *
  match k, hk with
  | 0, _ =>
    simp only [] at he ⊢
    obtain ⟨h1, h2, _⟩ := sent_push h he
    exact ⟨fun _ => ⟨_, h1, by rw [h1]; exact h2⟩, fun h => by omega, fun h => absurd rfl h, fun h => by omega⟩
  | 1, _ =>
    simp only [] at he ⊢
    exact ⟨fun h => by omega, fun _ => sent_met h he, fun _ _ => sent_lose h he, fun h => by omega⟩
  | 2, _ =>
    simp only [] at he ⊢
    exact ⟨fun h => by omega, fun h => by omega, fun _ _ => sent_lose h he, fun h => by omega⟩
  | 3, _ =>
    simp only [] at he ⊢
    unfold repE at he
    by_cases ha : askE m (hapAt m mv) = 0
    · rw [if_pos ha] at he
      obtain ⟨h1, i, hi, hil⟩ := ask_ok ha
      obtain ⟨h2, _, h3⟩ := sent_push h he
      have hq : atP m (hapAt m mv) ∈ sent := by rw [hi, atP_in h1 hil]; exact h.sub _ (List.getElem_mem _)
      refine ⟨fun h => by omega, fun h => by omega, fun _ _ => ?_, fun h => by omega⟩
      unfold repN
      rw [if_pos ha, h2]
      exact h3 hq
    · rw [if_neg ha] at he; exact absurd he ha
  | 4, _ =>
    simp only [] at he ⊢
    exact ⟨fun h => by omega, fun h => by omega, fun _ h => absurd rfl h, fun _ => cut_inv (on := true) h he⟩
  | 5, _ =>
    simp only [] at he ⊢
    exact ⟨fun h => by omega, fun h => by omega, fun _ _ => cut_inv (on := false) h he, fun h => by omega⟩
theorem sent_start : SentInv .nil [] 0 := ⟨by decide, (fun p hp => by cases hp), fun h => absurd rfl h⟩
end Go.Proofs.Ytmlhpchabnajkaa
