import Derived.Test.YthidfoohhhkobaaH19
import Derived.Test.YthidfoohhhkobaaH13
import Derived.Test.YthidfoohhhkobaaH14
namespace Go.Proofs.Ythidfoohhhkobaa
set_option linter.unusedSimpArgs false
set_option linter.unusedVariables false
structure RInv (n : Nat) (T : List Hd) (r : RoomP) : Prop where
  len : r.peers.length = n
  n1 : 1 ≤ n
  n4 : n ≤ 4
  fT : ∀ h ∈ T, fH h
  ord : ∀ l ∈ r.peers, ordH l
  mem : ∀ l ∈ r.peers, ∀ h ∈ l, h ∈ T
  que : ∀ p ∈ r.net.queue, ∃ h, h ∈ T ∧ p.data = msg h ∧ 0 ≤ p.frm ∧ p.frm < n ∧ 0 ≤ p.to_ ∧ p.to_ < n ∧ p.frm ≠ p.to_
  apart : r.net.apart = []
section
variable {n : Nat} {T : List Hd} {r : RoomP}
theorem RInv.lens (h : RInv n T r) : ∀ l ∈ r.peers, l.length ≤ T.length := fun l hl => nodup_le (ord_nodup (h.ord l hl)) (h.mem l hl)
theorem RInv.getD (h : RInv n T r) (i : Nat) : ordH (r.peers.getD i []) ∧ (∀ x ∈ r.peers.getD i [], x ∈ T) ∧ (r.peers.getD i []).length ≤ T.length := by
  rcases Nat.lt_or_ge i r.peers.length with hi | hi
  · have : r.peers.getD i [] ∈ r.peers := mem_getD hi
    exact ⟨h.ord _ this, h.mem _ this, h.lens _ this⟩
  · rw [List.getD_eq_getElem?_getD, List.getElem?_eq_none hi]
    exact ⟨List.Pairwise.nil, by simp, Nat.zero_le _⟩
theorem RInv.net (h : RInv n T r) (hq : r.net.queue.length ≤ 4096) : netChk r.net = 0 := by
  unfold netChk
  rw [if_neg, h.apart]
  · rfl
  · rintro (hc | hc)
    · omega
    · obtain ⟨p, hp, hb⟩ := List.any_eq_true.1 hc
      obtain ⟨x, _, hd, h1, h2, h3, h4, h5⟩ := h.que p hp
      have := packetB_of (n := n) (d := p.data) (by have := h.n4; omega) h1 h2 h3 h4 h5 (by rw [hd]; have := msg_len x; omega)
      have e : p = ⟨p.frm, p.to_, p.data⟩ := rfl
      rw [← e] at this
      rw [this] at hb
      cases hb
theorem RInv.known (h : RInv n T r) (ht : T.length ≤ 4096) : r.peers.all knownB = true := by
  refine List.all_eq_true.2 fun l hl => ?_
  unfold knownB
  rw [Bool.and_eq_true]
  refine ⟨List.all_eq_true.2 fun k hk => ?_, decide_eq_true (by have := h.lens l hl; omega)⟩
  have hk : k < l.length := by simpa using hk
  unfold knownAt
  rw [getD_atH hk, (h.fT _ (h.mem l hl _ (List.getElem_mem hk))).1, Bool.true_and, Bool.or_eq_true]
  by_cases h0 : k = 0
  · exact .inl (decide_eq_true h0)
  · refine .inr ?_
    rw [getD_atH (show k - 1 < l.length by omega)]
    exact List.pairwise_iff_getElem.1 (h.ord l hl) _ _ _ _ (by omega)
theorem RInv.chk (h : RInv n T r) (hq : r.net.queue.length ≤ 4096) (ht : T.length ≤ 4096) : roomChk r = 0 := by
  unfold roomChk
  rw [if_neg, if_pos]
  · rw [Bool.and_eq_true]
    refine ⟨h.known ht, List.all_eq_true.2 fun p hp => ?_⟩
    obtain ⟨x, hx, hd, h1, h2, h3, h4, h5⟩ := h.que p hp
    unfold pkB
    rw [hd, read_msg x (h.fT x hx).2 (h.fT x hx).1, h.len]
    simp only [Bool.true_and, Bool.not_eq_true']
    exact decide_eq_false (by split <;> omega)
  · have := h.net hq
    have := h.len; have := h.n1; have := h.n4
    omega
theorem RInv.ok (h : RInv n T r) (hq : r.net.queue.length ≤ 4096) (ht : T.length ≤ 4096) : okRoom r := by
  refine ⟨by have := h.len; have := h.n4; omega, fun l hl => ⟨by have := h.lens l hl; omega, fun x hx => (h.fT x (h.mem l hl x hx)).2⟩, ⟨by omega, by rw [h.apart]; simp⟩, fun p hp => ?_⟩
  obtain ⟨x, _, hd, _⟩ := h.que p hp
  rw [hd]
  have := msg_len x
  omega
theorem RInv.few (h : RInv n T r) (hq : r.net.queue.length ≤ 3000) (ht : T.length ≤ 1000) : fewR r := ⟨hq, fun l hl => by have := h.lens l hl; omega⟩
theorem RInv.mono {T' : List Hd} (h : RInv n T r) (hT : ∀ x ∈ T, x ∈ T') (hf : ∀ x ∈ T', fH x) : RInv n T' r :=
  ⟨h.len, h.n1, h.n4, hf, h.ord, fun l hl x hx => hT x (h.mem l hl x hx), fun p hp => by obtain ⟨x, h1, h2⟩ := h.que p hp; exact ⟨x, hT x h1, h2⟩, h.apart⟩
theorem RInv.nw {n : Int} (h1 : 1 ≤ n) (h4 : n ≤ 4) : RInv n.toNat [] (newR n) := by
  unfold newR
  rw [if_neg (by omega)]
  exact ⟨by simp, by omega, by omega, by simp, fun l hl => by rw [(List.mem_replicate.1 hl).2]; exact List.Pairwise.nil, fun l hl => by rw [(List.mem_replicate.1 hl).2]; simp, by simp, rfl⟩
theorem setPeer_len (l : List (List Hd)) (i : Int) (h : Hd) : (setPeer l i h).length = l.length := by unfold setPeer; simp
theorem setPeer_get (l : List (List Hd)) (i : Int) (h : Hd) (k : Nat) : (setPeer l i h).getD k [] = if i.toNat = k ∧ k < l.length then learnL (l.getD k []) h else l.getD k [] := by
  unfold setPeer
  simp only [List.getD_eq_getElem?_getD, List.getElem?_set]
  by_cases hk : k < l.length
  · by_cases e : i.toNat = k
    · subst e; simp [hk]
    · simp [e]
  · by_cases e : i.toNat = k
    · subst e; simp [hk]
    · simp [e]
theorem setPeer_mem {l : List (List Hd)} {i : Int} {h : Hd} {x : List Hd} (hx : x ∈ setPeer l i h) (hi : i.toNat < l.length) : x ∈ l ∨ x = learnL (l.getD i.toNat []) h := by
  unfold setPeer at hx
  exact (List.mem_or_eq_of_mem_set hx)
theorem RInv.learn {i : Int} {x : Hd} {q : List Pk} (h : RInv n T r) (hi : 0 ≤ i) (hin : i < n) (hx : x ∈ T) (hq : ∀ p ∈ q, p ∈ r.net.queue ∨ ∃ h, h ∈ T ∧ p.data = msg h ∧ 0 ≤ p.frm ∧ p.frm < n ∧ 0 ≤ p.to_ ∧ p.to_ < n ∧ p.frm ≠ p.to_) : RInv n T ⟨setPeer r.peers i x, ⟨q, r.net.apart⟩⟩ := by
  have hil : i.toNat < r.peers.length := by rw [h.len]; omega
  obtain ⟨g1, g2, g3⟩ := h.getD i.toNat
  have gf : ∀ y ∈ r.peers.getD i.toNat [], fH y := fun y hy => h.fT y (g2 y hy)
  refine ⟨by rw [setPeer_len, h.len], h.n1, h.n4, h.fT, fun l hl => ?_, fun l hl y hy => ?_, fun p hp => (hq p hp).elim (h.que p) id, h.apart⟩
  · rcases setPeer_mem hl hil with hl | rfl
    · exact h.ord l hl
    · exact ord_learn g1 gf (h.fT x hx)
  · rcases setPeer_mem hl hil with hl | rfl
    · exact h.mem l hl y hy
    · rcases (mem_learn gf (h.fT x hx)).1 hy with hy | rfl
      · exact g2 y hy
      · exact hx
theorem RInv.queue {q : List Pk} (h : RInv n T r) (hq : ∀ p ∈ q, p ∈ r.net.queue ∨ ∃ h, h ∈ T ∧ p.data = msg h ∧ 0 ≤ p.frm ∧ p.frm < n ∧ 0 ≤ p.to_ ∧ p.to_ < n ∧ p.frm ≠ p.to_) : RInv n T ⟨r.peers, ⟨q, r.net.apart⟩⟩ :=
  ⟨h.len, h.n1, h.n4, h.fT, h.ord, h.mem, fun p hp => (hq p hp).elim (h.que p) id, h.apart⟩
def smR (T : List Hd) (r : RoomP) : Prop := r.net.queue.length ≤ 3000 ∧ T.length ≤ 1000
theorem RInv.do (h : RInv n T r) (hs : smR T r) (a : ActP) : doE r a = actE r a := by
  unfold doE
  rw [h.chk (by have := hs.1; omega) (by have := hs.2; omega)]
  rfl
theorem RInv.atE (h : RInv n T r) (hs : smR T r) {i : Int} : atErr r.net i = if i < 0 ∨ i ≥ r.net.queue.length then 1 else 0 := by
  unfold atErr
  rw [h.net (by have := hs.1; omega)]
  rfl
theorem at_in (h : RInv n T r) (hs : smR T r) {i : Int} (h0 : atErr r.net i = 0) : 0 ≤ i ∧ i.toNat < r.net.queue.length ∧ delP r.net i = r.net.queue.getD i.toNat default := by
  have h1 := h0
  rw [h.atE hs] at h1
  split at h1
  · cases h1
  · refine ⟨by omega, by omega, ?_⟩
    unfold delP atP
    rw [if_pos h0, h.apart, if_neg (by simp)]
theorem tell_q {i : Int} (hi : 0 ≤ i) (hin : i < n) {x : Hd} (hx : x ∈ T) : ∀ p ∈ tellPk n i x, ∃ h, h ∈ T ∧ p.data = msg h ∧ 0 ≤ p.frm ∧ p.frm < n ∧ 0 ≤ p.to_ ∧ p.to_ < n ∧ p.frm ≠ p.to_ := by
  intro p hp
  unfold tellPk at hp
  obtain ⟨k, hk, rfl⟩ := List.mem_map.1 hp
  obtain ⟨hk1, hk2⟩ := List.mem_filter.1 hk
  have hk1 : k < n := by simpa using hk1
  have hk2 := of_decide_eq_true hk2
  exact ⟨x, hx, rfl, hi, hin, by dsimp only; omega, by dsimp only; omega, fun e => hk2 e.symm⟩
theorem tell_len (n : Nat) (i : Int) (hi : 0 ≤ i) (hin : i < n) (x : Hd) : (tellPk n i x).length + 1 = n := by
  unfold tellPk
  rw [List.length_map]
  have : ∀ m : Nat, ((List.range m).filter (fun k : Nat => decide ((k : Int) ≠ i))).length = if i < m then m - 1 else m := by
    intro m
    induction m with
    | zero => simp
    | succ m ih =>
      rw [List.range_succ, List.filter_append, List.length_append, ih]
      by_cases e : (m : Int) = i
      · rw [List.filter_cons_of_neg (by simp [e])]; simp only [List.filter_nil, List.length_nil]; (repeat' split) <;> omega
      · rw [List.filter_cons_of_pos (by simp [e])]; simp only [List.filter_nil, List.length_cons, List.length_nil]; (repeat' split) <;> omega
  rw [this, if_pos hin]
  omega
theorem RInv.act {a : ActP} (h : RInv n T r) (hs : smR T r) (ha : hOk a.hand) (h0 : doE r a = 0) :
    (a.kind = 1 → fH a.hand) ∧ doR r a = actR r a ∧ (∀ T', (∀ x, x ∈ T' ↔ x ∈ T ∨ (a.kind = 1 ∧ x = a.hand)) → RInv n T' (actR r a)) ∧ (actR r a).net.queue.length ≤ r.net.queue.length + max 3 T.length ∧ (∀ k, ∀ x ∈ r.peers.getD k [], x ∈ (actR r a).peers.getD k []) ∧ (a.kind = 1 → ∃ k, k < n ∧ a.hand ∈ (actR r a).peers.getD k []) := by
  have hE := h.do hs a
  rw [h0] at hE
  have hRd : doR r a = actR r a := by unfold doR; rw [if_pos h0]
  refine ⟨?_, hRd, ?_⟩
  · intro hk
    unfold actE at hE
    rw [if_pos hk] at hE
    split at hE
    · cases hE
    · split at hE
      · cases hE
      · rename_i hf; exact ⟨by simpa using hf, ha⟩
  unfold actE at hE
  unfold actR
  by_cases k1 : a.kind = 1
  · rw [if_pos k1] at hE ⊢
    split at hE
    · cases hE
    rename_i hin
    split at hE
    · cases hE
    rename_i hf
    have hfa : fH a.hand := ⟨by simpa using hf, ha⟩
    have hin : 0 ≤ a.peer ∧ a.peer < n := by
      have : inR r a.peer = true := by simpa using hin
      unfold inR at this
      rw [Bool.and_eq_true, decide_eq_true_eq, decide_eq_true_eq, h.len] at this
      omega
    have hil : a.peer.toNat < r.peers.length := by rw [h.len]; omega
    obtain ⟨g1, g2, g3⟩ := h.getD a.peer.toNat
    refine ⟨fun T' hT => ?_, ?_, fun k x hx => ?_, fun _ => ⟨a.peer.toNat, by omega, ?_⟩⟩
    · have hfT : ∀ x ∈ T', fH x := fun x hx => by
        rcases (hT x).1 hx with hx | ⟨_, rfl⟩
        · exact h.fT x hx
        · exact hfa
      have hmT : a.hand ∈ T' := (hT _).2 (.inr ⟨k1, rfl⟩)
      refine (h.mono (T' := T') (fun x hx => (hT x).2 (.inl hx)) hfT).learn hin.1 hin.2 hmT fun p hp => ?_
      rcases List.mem_append.1 hp with hp | hp
      · exact .inl hp
      · rw [h.len] at hp; exact .inr (tell_q hin.1 hin.2 hmT p hp)
    · have := tell_len n a.peer hin.1 hin.2 a.hand
      have := h.n4
      simp only [List.length_append, h.len]
      omega
    · show x ∈ (setPeer r.peers a.peer a.hand).getD k []
      rw [setPeer_get]
      split
      · rename_i e
        obtain ⟨_, gg2, _⟩ := h.getD k
        exact (mem_learn (fun y hy => h.fT y (gg2 y hy)) hfa).2 (.inl hx)
      · exact hx
    · show a.hand ∈ (setPeer r.peers a.peer a.hand).getD a.peer.toNat []
      rw [setPeer_get, if_pos ⟨rfl, hil⟩]
      exact (mem_learn (fun y hy => h.fT y (g2 y hy)) hfa).2 (.inr rfl)
  rw [if_neg k1] at hE ⊢
  have mT : ∀ T', (∀ x, x ∈ T' ↔ x ∈ T ∨ (a.kind = 1 ∧ x = a.hand)) → RInv n T' r := fun T' hT => h.mono (fun x hx => (hT x).2 (.inl hx)) fun x hx => by
    rcases (hT x).1 hx with hx | ⟨hk, _⟩
    · exact h.fT x hx
    · exact absurd hk k1
  have no1 : a.kind = 1 → ∃ k, k < n ∧ a.hand ∈ r.peers.getD k [] := fun hk => absurd hk k1
  by_cases k2 : a.kind = 2
  · rw [if_pos k2] at hE ⊢
    split at hE
    · cases hE
    rename_i hno
    have i1 : inR r a.peer = true := by cases hc : inR r a.peer with | true => rfl | false => exact absurd (.inl hc) hno
    have i2 : inR r a.to_ = true := by cases hc : inR r a.to_ with | true => rfl | false => exact absurd (.inr (.inl hc)) hno
    have i3 : a.peer ≠ a.to_ := fun e => hno (.inr (.inr e))
    unfold inR at i1 i2
    rw [Bool.and_eq_true, decide_eq_true_eq, decide_eq_true_eq, h.len] at i1 i2
    obtain ⟨g1, g2, g3⟩ := h.getD a.peer.toNat
    refine ⟨fun T' hT => ?_, ?_, fun k x hx => hx, no1⟩
    · refine (mT T' hT).queue fun p hp => ?_
      rcases List.mem_append.1 hp with hp | hp
      · exact .inl hp
      · unfold syncPk at hp
        obtain ⟨y, hy, rfl⟩ := List.mem_map.1 hp
        exact .inr ⟨y, (hT y).2 (.inl (g2 y hy)), rfl, i1.1, i1.2, i2.1, i2.2, i3⟩
    · simp only [syncPk, List.length_append, List.length_map]
      omega
  rw [if_neg k2] at hE ⊢
  by_cases k3 : a.kind = 3
  · rw [if_pos (.inl k3)] at hE
    rw [if_pos k3]
    obtain ⟨i1, i2, i3⟩ := at_in h hs hE.symm
    have hm : r.net.queue.getD a.at_.toNat default ∈ r.net.queue := mem_getD i2
    obtain ⟨y, y1, y2, y3, y4, y5, y6, y7⟩ := h.que _ hm
    simp only [i3]
    rw [if_neg y7, y2, read_msg y (h.fT y y1).2 (h.fT y y1).1]
    unfold loseN
    rw [if_pos hE.symm]
    refine ⟨fun T' hT => ?_, ?_, fun k x hx => ?_, fun hk => absurd hk k1⟩
    · refine (mT T' hT).learn y5 y6 ((hT y).2 (.inl y1)) fun p hp => .inl ?_
      rcases List.mem_append.1 hp with hp | hp
      · exact List.mem_of_mem_take hp
      · exact List.mem_of_mem_drop hp
    · simp only [cutN, List.length_append, List.length_take, List.length_drop]
      omega
    · rw [setPeer_get]
      split
      · rename_i e
        obtain ⟨_, gg2, _⟩ := h.getD k
        exact (mem_learn (fun y hy => h.fT y (gg2 y hy)) (h.fT y y1)).2 (.inl hx)
      · exact hx
  by_cases k4 : a.kind = 4
  · rw [if_pos (.inr k4)] at hE
    rw [if_neg k3, if_pos k4]
    obtain ⟨i1, i2, i3⟩ := at_in h hs hE.symm
    unfold loseN
    rw [if_pos hE.symm]
    refine ⟨fun T' hT => ?_, ?_, fun k x hx => hx, no1⟩
    · refine (mT T' hT).queue fun p hp => .inl ?_
      rcases List.mem_append.1 hp with hp | hp
      · exact List.mem_of_mem_take hp
      · exact List.mem_of_mem_drop hp
    · simp only [cutN, List.length_append, List.length_take, List.length_drop]
      omega
  rw [if_neg (by rintro (e | e); exact k3 e; exact k4 e)] at hE
  rw [if_neg k3, if_neg k4]
  by_cases k5 : a.kind = 5
  · rw [if_pos k5] at hE
    unfold repErr at hE
    split at hE
    · rename_i hh; exact absurd hE.symm hh
    rename_i hh
    have hh : atErr r.net a.at_ = 0 := by omega
    obtain ⟨i1, i2, i3⟩ := at_in h hs hh
    have hm : r.net.queue.getD a.at_.toNat default ∈ r.net.queue := mem_getD i2
    have hat : atP r.net a.at_ = r.net.queue.getD a.at_.toNat default := by unfold atP; rw [if_pos hh]
    unfold repN sendN
    rw [if_neg (by omega), if_pos hE.symm, hat]
    refine ⟨fun T' hT => ?_, ?_, fun k x hx => hx, no1⟩
    · refine (mT T' hT).queue fun p hp => .inl ?_
      rcases List.mem_append.1 hp with hp | hp
      · exact hp
      · rw [List.mem_singleton.1 hp]; exact hm
    · simp only [List.length_append, List.length_cons, List.length_nil]
      omega
  · rw [if_neg k5] at hE; cases hE
theorem doR_bad {r : RoomP} {a : ActP} (h : doE r a ≠ 0) : doR r a = room0 := by unfold doR; rw [if_neg h]
end
end Go.Proofs.Ythidfoohhhkobaa


namespace Go.Proofs.Ythidfoohhhkobaa
set_option linter.unusedSimpArgs false
set_option linter.unusedVariables false
section
variable {n : Nat} {T : List Hd} {r : RoomP}
def stepA (s : RoomP × List Hd) (a : ActP) : RoomP × List Hd := if doE s.1 a = 0 then (doR s.1 a, if a.kind = 1 then learnL s.2 a.hand else s.2) else s
def actsF (n : Int) (l : List ActP) : RoomP × List Hd := l.foldl stepA (newR n, [])
structure AInv (n k : Nat) (s : RoomP × List Hd) : Prop where
  inv : RInv n s.2 s.1
  ordT : ordH s.2
  lenT : s.2.length ≤ k
  lenQ : s.1.net.queue.length ≤ 14 * k
  all : ∀ x ∈ s.2, ∃ i, i < n ∧ x ∈ s.1.peers.getD i []
theorem AInv.sm {k : Nat} {s : RoomP × List Hd} (h : AInv n k s) (hk : k ≤ 14) : smR s.2 s.1 := ⟨by have := h.lenQ; omega, by have := h.lenT; omega⟩
theorem AInv.step {k : Nat} {s : RoomP × List Hd} (h : AInv n k s) (hk : k < 14) {a : ActP} (ha : hOk a.hand) : AInv n (k + 1) (stepA s a) := by
  unfold stepA
  by_cases h0 : doE s.1 a = 0
  · rw [if_pos h0]
    obtain ⟨a1, a2, a3, a4, a5, a6⟩ := h.inv.act (h.sm (by omega)) ha h0
    rw [a2]
    have hT : ∀ x, x ∈ (if a.kind = 1 then learnL s.2 a.hand else s.2) ↔ x ∈ s.2 ∨ (a.kind = 1 ∧ x = a.hand) := fun x => by
      by_cases hk1 : a.kind = 1
      · rw [if_pos hk1, mem_learn h.inv.fT (a1 hk1)]; simp [hk1]
      · rw [if_neg hk1]; simp [hk1]
    have hm : max 3 s.2.length ≤ 14 := by have := h.lenT; omega
    refine ⟨a3 _ hT, ?_, ?_, ?_, fun x hx => ?_⟩
    · show ordH (if a.kind = 1 then learnL s.2 a.hand else s.2)
      split
      · rename_i hk1; exact ord_learn h.ordT h.inv.fT (a1 hk1)
      · exact h.ordT
    · show (if a.kind = 1 then learnL s.2 a.hand else s.2).length ≤ k + 1
      have := h.lenT
      split
      · have := len_learn s.2 a.hand; omega
      · omega
    · show (actR s.1 a).net.queue.length ≤ 14 * (k + 1)
      have := h.lenQ; omega
    · rcases (hT x).1 hx with hx | ⟨hk1, rfl⟩
      · obtain ⟨i, hi, hxi⟩ := h.all x hx
        exact ⟨i, hi, a5 i x hxi⟩
      · exact a6 hk1
  · rw [if_neg h0]
    exact ⟨h.inv, h.ordT, by have := h.lenT; omega, by have := h.lenQ; omega, h.all⟩
theorem AInv.zero {n : Int} (h1 : 1 ≤ n) (h4 : n ≤ 4) : AInv n.toNat 0 (newR n, []) :=
  ⟨RInv.nw h1 h4, List.Pairwise.nil, Nat.le_refl _, by unfold newR; rw [if_neg (by omega)]; exact Nat.le_refl _, fun x hx => by cases hx⟩
theorem acts_inv {n : Int} (h1 : 1 ≤ n) (h4 : n ≤ 4) (l : List ActP) (hl : l.length ≤ 14) (ha : ∀ a ∈ l, hOk a.hand) : ∀ k, k ≤ l.length → AInv n.toNat k (actsF n (l.take k))
  | 0, _ => by rw [List.take_zero]; exact AInv.zero h1 h4
  | k + 1, hk => by
    have ih := acts_inv h1 h4 l hl ha k (by omega)
    rw [List.take_succ_eq_append_getElem (by omega)]
    unfold actsF at ih ⊢
    rw [List.foldl_append, List.foldl_cons, List.foldl_nil]
    exact ih.step (by omega) (ha _ (List.getElem_mem _))
theorem acts_step (n : Int) (l : List ActP) (k : Nat) (hk : k < l.length) : actsF n (l.take (k + 1)) = stepA (actsF n (l.take k)) l[k] := by
  rw [List.take_succ_eq_append_getElem hk]
  unfold actsF
  rw [List.foldl_append, List.foldl_cons, List.foldl_nil]
abbrev delA (i : Int) : ActP := ⟨3, 0, 0, i, default⟩
abbrev repA (i : Int) : ActP := ⟨5, 0, 0, i, default⟩
abbrev synA (i k : Int) : ActP := ⟨2, i, k, 0, default⟩
theorem RInv.del (h : RInv n T r) (hs : smR T r) {i : Nat} (hi : i < r.net.queue.length) : doE r (delA i) = 0 ∧ ∃ y, y ∈ T ∧ (∃ p, r.net.queue[i]? = some p ∧ p.data = msg y ∧ 0 ≤ p.to_ ∧ p.to_ < n ∧ doR r (delA i) = ⟨setPeer r.peers p.to_ y, ⟨r.net.queue.take i ++ r.net.queue.drop (i + 1), r.net.apart⟩⟩) := by
  have hat : atErr r.net (i : Int) = 0 := by rw [h.atE hs, if_neg (by omega)]
  have hE : doE r (delA i) = 0 := by rw [h.do hs]; exact hat
  refine ⟨hE, ?_⟩
  obtain ⟨i1, i2, i3⟩ := at_in h hs hat
  rw [Int.toNat_natCast] at i3
  have hg : r.net.queue.getD i default = r.net.queue[i] := by simp [List.getD_eq_getElem?_getD, List.getElem?_eq_getElem hi]
  obtain ⟨y, y1, y2, y3, y4, y5, y6, y7⟩ := h.que _ (List.getElem_mem hi)
  refine ⟨y, y1, r.net.queue[i], List.getElem?_eq_getElem hi, y2, y5, y6, ?_⟩
  unfold doR
  rw [if_pos hE]
  unfold actR
  rw [if_neg (show ¬ (3 : Int) = 1 by decide), if_neg (show ¬ (3 : Int) = 2 by decide), if_pos rfl]
  simp only [i3, hg]
  rw [if_neg y7, y2, read_msg y (h.fT y y1).2 (h.fT y y1).1]
  unfold loseN
  rw [if_pos hat]
  rfl
theorem RInv.rep (h : RInv n T r) (hs : smR T r) {i : Nat} (hi : i < r.net.queue.length) : doE r (repA i) = 0 ∧ ∃ p, r.net.queue[i]? = some p ∧ doR r (repA i) = ⟨r.peers, ⟨r.net.queue ++ [p], r.net.apart⟩⟩ := by
  have hat : atErr r.net (i : Int) = 0 := by rw [h.atE hs, if_neg (by omega)]
  have hap : atP r.net (i : Int) = r.net.queue[i] := by unfold atP; rw [if_pos hat]; simp [List.getD_eq_getElem?_getD, List.getElem?_eq_getElem hi]
  obtain ⟨y, y1, y2, y3, y4, y5, y6, y7⟩ := h.que _ (List.getElem_mem hi)
  have hp := packetB_of (n := n) (d := r.net.queue[i].data) (by have := h.n4; omega) y3 y4 y5 y6 y7 (by rw [y2]; have := msg_len y; omega)
  have hsd := send_ok (n := r.net) (p := r.net.queue[i]) (h.net (by have := hs.1; omega)) hp (by have := hs.1; omega)
  have hre : repErr r.net (i : Int) = 0 := by unfold repErr; rw [if_neg (by omega), hap, hsd.1]
  have hE : doE r (repA i) = 0 := by rw [h.do hs]; exact hre
  refine ⟨hE, r.net.queue[i], List.getElem?_eq_getElem hi, ?_⟩
  unfold doR
  rw [if_pos hE]
  unfold actR
  rw [if_neg (show ¬ (5 : Int) = 1 by decide), if_neg (show ¬ (5 : Int) = 2 by decide), if_neg (show ¬ (5 : Int) = 3 by decide), if_neg (show ¬ (5 : Int) = 4 by decide)]
  unfold repN
  rw [if_neg (fun h => h hat), hap, hsd.2]
def Kn (T : List Hd) (r : RoomP) (i : Nat) (x : Hd) : Prop := x ∈ r.peers.getD i [] ∨ (x ∈ T ∧ ∃ p ∈ r.net.queue, p.to_ = (i : Int) ∧ p.data = msg x)
theorem RInv.del_ok (h : RInv n T r) (hs : smR T r) {i : Nat} (hi : i < r.net.queue.length) : doE r (delA i) = 0 ∧ RInv n T (doR r (delA i)) ∧ (doR r (delA i)).net.queue.length + 1 = r.net.queue.length ∧ ∀ k x, Kn T (doR r (delA i)) k x ↔ Kn T r k x := by
  obtain ⟨h0, y, y1, p, p1, p2, p3, p4, e⟩ := h.del hs hi
  have hsplit : ∀ q, q ∈ r.net.queue ↔ q ∈ r.net.queue.take i ++ r.net.queue.drop (i + 1) ∨ q = p := fun q => by
    have e1 : r.net.queue = r.net.queue.take i ++ p :: r.net.queue.drop (i + 1) := by
      conv => lhs; rw [← List.take_append_drop i r.net.queue]
      rw [List.drop_eq_getElem_cons hi]
      congr 2
      rw [List.getElem?_eq_getElem hi] at p1
      exact Option.some.inj p1
    conv => lhs; rw [e1]
    simp only [List.mem_append, List.mem_cons]
    exact ⟨fun h => by rcases h with h | h | h; exact .inl (.inl h); exact .inr h; exact .inl (.inr h), fun h => by rcases h with (h | h) | h; exact .inl h; exact .inr (.inr h); exact .inr (.inl h)⟩
  rw [e]
  refine ⟨h0, h.learn p3 p4 y1 fun q hq => .inl ((hsplit q).2 (.inl hq)), ?_, fun k x => ?_⟩
  · simp only [List.length_append, List.length_take, List.length_drop]
    omega
  · obtain ⟨_, g2, _⟩ := h.getD k
    have gf : ∀ z ∈ r.peers.getD k [], fH z := fun z hz => h.fT z (g2 z hz)
    unfold Kn
    simp only [setPeer_get]
    by_cases hk : p.to_.toNat = k ∧ k < r.peers.length
    · rw [if_pos hk, mem_learn gf (h.fT y y1)]
      constructor
      · rintro ((hx | rfl) | ⟨hx, q, hq, hq2⟩)
        · exact .inl hx
        · exact .inr ⟨y1, p, (hsplit p).2 (.inr rfl), by omega, p2⟩
        · exact .inr ⟨hx, q, (hsplit q).2 (.inl hq), hq2⟩
      · rintro (hx | ⟨hx, q, hq, hq2, hq3⟩)
        · exact .inl (.inl hx)
        · rcases (hsplit q).1 hq with hq | rfl
          · exact .inr ⟨hx, q, hq, hq2, hq3⟩
          · exact .inl (.inr (msg_inj (h.fT x hx).2 (h.fT y y1).2 (h.fT x hx).1 (h.fT y y1).1 (hq3.symm.trans p2)))
    · rw [if_neg hk]
      have hne : p.to_ ≠ (k : Int) := fun e => hk ⟨by omega, by rw [h.len]; omega⟩
      constructor
      · rintro (hx | ⟨hx, q, hq, hq2⟩)
        · exact .inl hx
        · exact .inr ⟨hx, q, (hsplit q).2 (.inl hq), hq2⟩
      · rintro (hx | ⟨hx, q, hq, hq2, hq3⟩)
        · exact .inl hx
        · rcases (hsplit q).1 hq with hq | rfl
          · exact .inr ⟨hx, q, hq, hq2, hq3⟩
          · exact absurd hq2 hne
theorem RInv.rep_ok (h : RInv n T r) (hs : smR T r) {i : Nat} (hi : i < r.net.queue.length) : doE r (repA i) = 0 ∧ RInv n T (doR r (repA i)) ∧ (doR r (repA i)).net.queue.length = r.net.queue.length + 1 ∧ ∀ k x, Kn T (doR r (repA i)) k x ↔ Kn T r k x := by
  obtain ⟨h0, p, p1, e⟩ := h.rep hs hi
  have hp : p ∈ r.net.queue := List.mem_of_getElem? p1
  have hm : ∀ q, q ∈ r.net.queue ++ [p] ↔ q ∈ r.net.queue := fun q => by
    simp only [List.mem_append, List.mem_singleton]
    exact ⟨fun h => h.elim id fun e => by subst e; exact hp, .inl⟩
  rw [e]
  refine ⟨h0, h.queue fun q hq => .inl ((hm q).1 hq), by simp, fun k x => ?_⟩
  unfold Kn
  simp only [hm]
def atO (o : List UInt8) (i : Nat) : Nat := if i < o.length then (o.getD i 0).toNat else 0
def repO (o : List UInt8) (i : Nat) : Bool := decide (i < o.length) && decide (200 ≤ (o.getD i 0).toNat)
def repS (o : List UInt8) (i : Nat) (r : RoomP) : RoomP := if repO o i then doR r (repA ((atO o i % r.net.queue.length : Nat) : Int)) else r
def drainS (o : List UInt8) (i : Nat) (r : RoomP) : RoomP := doR (repS o i r) (delA ((atO o i % (repS o i r).net.queue.length : Nat) : Int))
def drainN (o : List UInt8) (r : RoomP) : Nat → RoomP
  | 0 => r
  | i + 1 => drainS o i (drainN o r i)
theorem repS_ok (h : RInv n T r) (hs : smR T r) (hq : r.net.queue ≠ []) (o : List UInt8) (i : Nat) : RInv n T (repS o i r) ∧ (repS o i r).net.queue.length = r.net.queue.length + (if repO o i then 1 else 0) ∧ (∀ k x, Kn T (repS o i r) k x ↔ Kn T r k x) ∧ (repO o i = true → doE r (repA ((atO o i % r.net.queue.length : Nat) : Int)) = 0) := by
  have hl : 0 < r.net.queue.length := List.length_pos_iff.2 hq
  unfold repS
  cases hr : repO o i with
  | false => exact ⟨h, rfl, fun _ _ => .rfl, fun e => by cases e⟩
  | true =>
    obtain ⟨h0, h1, h2, h3⟩ := h.rep_ok hs (i := atO o i % r.net.queue.length) (Nat.mod_lt _ hl)
    exact ⟨h1, h2, h3, fun _ => h0⟩
theorem drainS_ok (h : RInv n T r) (hs : r.net.queue.length ≤ 2999 ∧ T.length ≤ 1000) (hq : r.net.queue ≠ []) (o : List UInt8) (i : Nat) : doE (repS o i r) (delA ((atO o i % (repS o i r).net.queue.length : Nat) : Int)) = 0 ∧ RInv n T (drainS o i r) ∧ (drainS o i r).net.queue.length + 1 = (repS o i r).net.queue.length ∧ ∀ k x, Kn T (drainS o i r) k x ↔ Kn T r k x := by
  obtain ⟨h1, h2, h3, _⟩ := repS_ok h ⟨by omega, hs.2⟩ hq o i
  have hl : 0 < r.net.queue.length := List.length_pos_iff.2 hq
  have hl2 : (repS o i r).net.queue.length ≤ r.net.queue.length + 1 ∧ 0 < (repS o i r).net.queue.length := by rw [h2]; split <;> omega
  obtain ⟨k0, k1, k2, k3⟩ := h1.del_ok ⟨by omega, hs.2⟩ (i := atO o i % (repS o i r).net.queue.length) (Nat.mod_lt _ hl2.2)
  exact ⟨k0, k1, k2, fun k x => (k3 k x).trans (h3 k x)⟩
theorem drain_end (o : List UInt8) (h : RInv n T r) (hs : r.net.queue.length ≤ 2999 ∧ T.length ≤ 1000) : ∃ k, (drainN o r k).net.queue = [] ∧ (∀ j, j < k → (drainN o r j).net.queue ≠ []) ∧ (∀ j, j ≤ k → RInv n T (drainN o r j) ∧ (drainN o r j).net.queue.length ≤ r.net.queue.length) ∧ (∀ i x, x ∈ (drainN o r k).peers.getD i [] ↔ Kn T r i x) ∧ k ≤ o.length + r.net.queue.length := by
  have key : ∀ m i, (o.length - i) + (drainN o r i).net.queue.length ≤ m → (∀ j, j < i → (drainN o r j).net.queue ≠ []) → (∀ j, j ≤ i → RInv n T (drainN o r j) ∧ (drainN o r j).net.queue.length ≤ r.net.queue.length) → (∀ k x, Kn T (drainN o r i) k x ↔ Kn T r k x) →
      ∃ k, (drainN o r k).net.queue = [] ∧ (∀ j, j < k → (drainN o r j).net.queue ≠ []) ∧ (∀ j, j ≤ k → RInv n T (drainN o r j) ∧ (drainN o r j).net.queue.length ≤ r.net.queue.length) ∧ (∀ i x, x ∈ (drainN o r k).peers.getD i [] ↔ Kn T r i x) ∧ k ≤ i + m := by
    intro m
    induction m with
    | zero =>
      intro i hm h1 h2 h3
      have hq : (drainN o r i).net.queue = [] := List.eq_nil_of_length_eq_zero (by omega)
      refine ⟨i, hq, h1, h2, fun k x => ?_, by omega⟩
      rw [← h3 k x]
      unfold Kn
      rw [hq]
      simp
    | succ m ih =>
      intro i hm h1 h2 h3
      by_cases hq : (drainN o r i).net.queue = []
      · refine ⟨i, hq, h1, h2, fun k x => ?_, by omega⟩
        rw [← h3 k x]
        unfold Kn
        rw [hq]
        simp
      · obtain ⟨i1, i2⟩ := h2 i (Nat.le_refl _)
        obtain ⟨d0, d1, d2, d3⟩ := drainS_ok i1 ⟨by omega, hs.2⟩ hq o i
        obtain ⟨e1, e2, e3, e4⟩ := repS_ok i1 ⟨by omega, hs.2⟩ hq o i
        have hle : (drainN o r (i + 1)).net.queue.length ≤ (drainN o r i).net.queue.length ∧ (o.length - (i + 1)) + (drainN o r (i + 1)).net.queue.length ≤ m := by
          show (drainS o i (drainN o r i)).net.queue.length ≤ _ ∧ (o.length - (i + 1)) + (drainS o i (drainN o r i)).net.queue.length ≤ m
          cases hr : repO o i with
          | false => rw [hr] at e2; simp only [Bool.false_eq_true, if_false] at e2; omega
          | true =>
            rw [hr] at e2
            simp only [if_true] at e2
            unfold repO at hr
            rw [Bool.and_eq_true, decide_eq_true_eq] at hr
            omega
        obtain ⟨k, k1, k2, k3, k4, k5⟩ := ih (i + 1) hle.2 (fun j hj => by
          rcases Nat.lt_succ_iff_lt_or_eq.1 hj with hj | rfl
          · exact h1 j hj
          · exact hq) (fun j hj => by
          rcases Nat.le_succ_iff.1 hj with hj | rfl
          · exact h2 j hj
          · exact ⟨d1, Nat.le_trans hle.1 i2⟩) (fun k x => (d3 k x).trans (h3 k x))
        exact ⟨k, k1, k2, k3, k4, by omega⟩
  obtain ⟨k, k1, k2, k3, k4, k5⟩ := key (o.length + r.net.queue.length) 0 (by show o.length - 0 + r.net.queue.length ≤ _; omega) (fun j hj => absurd hj (Nat.not_lt_zero j)) (fun j hj => by
    obtain rfl : j = 0 := by omega
    exact ⟨h, Nat.le_refl _⟩) (fun _ _ => .rfl)
  exact ⟨k, k1, k2, k3, k4, by omega⟩
theorem RInv.ext {r r' : RoomP} (h : RInv n T r) (h' : RInv n T r') (hq : r.net.queue = []) (hq' : r'.net.queue = []) (he : ∀ i x, x ∈ r.peers.getD i [] ↔ x ∈ r'.peers.getD i []) : r = r' := by
  obtain ⟨p, q, ap⟩ := r
  obtain ⟨p', q', ap'⟩ := r'
  have e1 : p = p' := by
    refine List.ext_getElem (by rw [show p.length = n from h.len, show p'.length = n from h'.len]) fun i h1 h2 => ?_
    have g := h.getD i
    have g' := h'.getD i
    have e := ord_ext g.1 g'.1 (he i)
    simpa [List.getD_eq_getElem?_getD, List.getElem?_eq_getElem h1, List.getElem?_eq_getElem h2] using e
  have e2 : q = q' := hq.trans hq'.symm
  have e3 : ap = ap' := h.apart.trans h'.apart.symm
  subst e1 e2 e3
  rfl
theorem RInv.sync (h : RInv n T r) (hs : smR T r) {i k : Nat} (hi : i < n) (hk : k < n) (hne : i ≠ k) : doE r (synA i k) = 0 ∧ doR r (synA i k) = ⟨r.peers, ⟨r.net.queue ++ syncPk (r.peers.getD i []) i k, r.net.apart⟩⟩ ∧ RInv n T (doR r (synA i k)) := by
  have hE : doE r (synA i k) = 0 := by
    rw [h.do hs]
    unfold actE
    rw [if_neg (show ¬ (2 : Int) = 1 by decide), if_pos rfl, if_neg]
    unfold inR
    rw [h.len]
    dsimp only
    rintro (e | e | e)
    · rw [Bool.and_eq_false_iff, decide_eq_false_iff_not, decide_eq_false_iff_not] at e; omega
    · rw [Bool.and_eq_false_iff, decide_eq_false_iff_not, decide_eq_false_iff_not] at e; omega
    · have e : (i : Int) = k := e; omega
  have e : doR r (synA i k) = ⟨r.peers, ⟨r.net.queue ++ syncPk (r.peers.getD i []) i k, r.net.apart⟩⟩ := by
    unfold doR
    rw [if_pos hE]
    unfold actR
    rw [if_neg (show ¬ (2 : Int) = 1 by decide), if_pos rfl]
    rfl
  refine ⟨hE, e, ?_⟩
  rw [e]
  refine h.queue fun p hp => ?_
  rcases List.mem_append.1 hp with hp | hp
  · exact .inl hp
  · unfold syncPk at hp
    obtain ⟨y, hy, rfl⟩ := List.mem_map.1 hp
    obtain ⟨_, g2, _⟩ := h.getD i
    exact .inr ⟨y, g2 y hy, rfl, by dsimp only; omega, by dsimp only; omega, by dsimp only; omega, by dsimp only; omega, fun e => hne (by have e : (i : Int) = k := e; omega)⟩
def synK (i : Nat) : Nat → RoomP → RoomP
  | 0, r => r
  | k + 1, r => if i = k then synK i k r else doR (synK i k r) (synA i k)
def synI (n : Nat) : Nat → RoomP → RoomP
  | 0, r => r
  | i + 1, r => synK i n (synI n i r)
structure SInv (n : Nat) (T : List Hd) (r0 r : RoomP) (q : Nat) (D : Nat → Nat → Prop) : Prop where
  inv : RInv n T r
  peers : r.peers = r0.peers
  que : r.net.queue.length ≤ q
  done : ∀ i k, D i k → ∀ x ∈ r0.peers.getD i [], Kn T r k x
theorem synK_ok {r0 : RoomP} {q i : Nat} {D : Nat → Nat → Prop} (hT : T.length ≤ 14) (hi : i < n) (h : SInv n T r0 r q D) (hq : q ≤ 2000) : ∀ k, k ≤ n → SInv n T r0 (synK i k r) (q + 14 * k) (fun a b => D a b ∨ (a = i ∧ b < k))
  | 0, _ => ⟨h.inv, h.peers, h.que, fun a b hd => hd.elim (h.done a b) (fun e => by omega)⟩
  | k + 1, hk => by
    have ih := synK_ok hT hi h hq k (by omega)
    have hn := ih.inv.n4
    have hsm : smR T (synK i k r) := ⟨by have := ih.que; omega, by omega⟩
    unfold synK
    by_cases e : i = k
    · rw [if_pos e]
      refine ⟨ih.inv, ih.peers, by have := ih.que; omega, fun a b hd x hx => ?_⟩
      rcases hd with hd | ⟨rfl, hb⟩
      · exact ih.done a b (.inl hd) x hx
      · rcases Nat.lt_succ_iff_lt_or_eq.1 hb with hb | rfl
        · exact ih.done a b (.inr ⟨rfl, hb⟩) x hx
        · subst e
          exact .inl (by rw [ih.peers]; exact hx)
    · rw [if_neg e]
      obtain ⟨s1, s2, s3⟩ := ih.inv.sync hsm hi (by omega) e
      have hlen : (doR (synK i k r) (synA i k)).net.queue.length ≤ q + 14 * (k + 1) := by
        rw [s2]
        obtain ⟨_, _, g3⟩ := ih.inv.getD i
        have := ih.que
        simp only [syncPk, List.length_append, List.length_map]
        omega
      refine ⟨s3, by rw [s2]; exact ih.peers, hlen, fun a b hd x hx => ?_⟩
      have keep : Kn T (synK i k r) b x → Kn T (doR (synK i k r) (synA i k)) b x := by
        rw [s2]
        rintro (hx | ⟨hx, p, hp, hp2⟩)
        · exact .inl hx
        · exact .inr ⟨hx, p, List.mem_append_left _ hp, hp2⟩
      rcases hd with hd | ⟨rfl, hb⟩
      · exact keep (ih.done a b (.inl hd) x hx)
      · rcases Nat.lt_succ_iff_lt_or_eq.1 hb with hb | rfl
        · exact keep (ih.done a b (.inr ⟨rfl, hb⟩) x hx)
        · rw [s2]
          rw [← ih.peers] at hx
          obtain ⟨_, g2, _⟩ := ih.inv.getD a
          refine .inr ⟨g2 x hx, ⟨a, b, msg x⟩, List.mem_append_right _ ?_, rfl, rfl⟩
          unfold syncPk
          exact List.mem_map_of_mem (f := fun h => (⟨a, b, msg h⟩ : Pk)) hx
theorem synI_ok (hT : T.length ≤ 14) (h : RInv n T r) (hq : r.net.queue.length ≤ 200) : ∀ i, i ≤ n → SInv n T r (synI n i r) (200 + 56 * i) (fun a b => a < i ∧ b < n)
  | 0, _ => ⟨h, rfl, by show r.net.queue.length ≤ _; omega, fun a b hd => by omega⟩
  | i + 1, hi => by
    have ih := synI_ok hT h hq i (by omega)
    have hn := h.n4
    have := synK_ok (i := i) hT (by omega) ih (by omega) n (Nat.le_refl _)
    exact ⟨this.inv, this.peers, by have := this.que; unfold synI; omega, fun a b hd x hx => this.done a b (by
      rcases Nat.lt_succ_iff_lt_or_eq.1 hd.1 with h1 | rfl
      · exact .inl ⟨h1, hd.2⟩
      · exact .inr ⟨rfl, hd.2⟩) x hx⟩
end
end Go.Proofs.Ythidfoohhhkobaa


namespace Go.Proofs.Ythidfoohhhkobaa
set_option linter.unusedSimpArgs false
set_option linter.unusedVariables false
open Go.RowKit
theorem getD_acts (l : List ActP) (k : Nat) : (l.map actD).getD k (actD default) = actD (l.getD k default) := by
  simp [List.getD_eq_getElem?_getD, List.getElem?_map]
theorem rm_dr (r : RoomP) : List.drop 3 (dV (roomD r)) = [] := rfl
def aOk (a : ActP) : Prop := hOk a.hand ∧ Cd.i64R a.kind
theorem spec_sub {P : Program} {f : FuncId} {xs ys : List A} {r : Ret} (h : Spec P f ys r) (hs : SubL xs ys) : Spec P f xs r := fun F w us hF hus => h F w us hF (subL_ok hs hus)
theorem dA_k : (default : ActP).kind = 0 := rfl
theorem dA_p : (default : ActP).peer = 0 := rfl
theorem dA_t : (default : ActP).to_ = 0 := rfl
theorem dA_a : (default : ActP).at_ = 0 := rfl
theorem dA_h : (default : ActP).hand = default := rfl
theorem tmod_nat (a b : Nat) : ((a : Int)).tmod (b : Int) = ((a % b : Nat) : Int) := by rw [Int.tmod_eq_emod_of_nonneg (by omega)]; omega
theorem wrap_u8 (b : UInt8) : IntKind.i64.wrap (b.toNat : Int) = (b.toNat : Int) := by
  have := b.toNat_lt
  rw [IntKind.wrap_i64]; omega
theorem by_h (b : UInt8) : (dV (byD b)).head? = some (.d (.c (.int .u8 (b.toNat : Int)))) := rfl
theorem by_get (o : List UInt8) (i : Nat) : (o.map byD).getD i (byD 0) = byD (o.getD i 0) := by simp [List.getD_eq_getElem?_getD, List.getElem?_map]
theorem hOk_dflt : hOk (default : Hd) := hOk_zero

set_option maxRecDepth 100000
set_option maxHeartbeats 4000000
theorem q48time_spec (n : Int) : Spec Try.prog 21 [aI n] (.r1 (aB (decide (n ≥ 0) && decide (n < 2097152)))) := by
  refine spec_of T_ok Try.func21 (by dsimp only [Try.f21]) rfl rfl (by simp) fun w F => ?_
  repeat' (first | (with_reducible refine aw_seq ?_) | ((with_reducible refine two_intro ?_ ?_) <;> intro h <;> first | contradiction | (((revert h; intro _)))) | ((with_reducible refine And.intro ?_ ?_); (focus (rfl))) | ((first | ((with_reducible refine aw_regionA T_ok ?_ ?_); kernel_rfl) | (with_reducible refine aw_exit ?_) | ((with_reducible refine aw_condM ?_ ?_); kernel_rfl) | (with_reducible refine aw_ret ?_) ); simp only [↓avP, avQ, avR, forall_const, implies_true, Nat.reduceEqDiff, Nat.reduceAdd, Nat.reduceLeDiff, reduceCtorEq, avS, u8s_by, strOf_by, ty_85, ty_23, ty_9, ty_5]; try simp (disch := omega) only [av_w, av_t1, av_tp, Int.toNat_natCast]))
  all_goals exact Sub.refl _
theorem q48formed_spec (h : Hd) : Spec Try.prog 11 [.agg (handD h)] (.r1 (aB (formB h))) := by
  refine spec_of T_ok Try.func11 (by dsimp only [Try.f11]) rfl rfl (by simp) fun w F => ?_
  repeat' (first | (with_reducible refine aw_seq ?_) | ((first | ((with_reducible refine aw_regionA T_ok ?_ ?_); kernel_rfl) | ((with_reducible refine callK_intro (q48time_spec _) (by repeat' (first | exact ta_n | refine ta_d ?_)) ?_ ?_); kernel_rfl) | (with_reducible refine aw_ret ?_) ); simp only [↓avP, avQ, avR, forall_const, implies_true, Nat.reduceEqDiff, Nat.reduceAdd, reduceCtorEq, avS, handS, ty_H, ty_3, ty_40]; try simp (disch := omega) only [av_w, av_t1, av_tp, Int.toNat_natCast]))
  refine Sub.of_eq (congrArg aB ?_)
  rw [Bool.eq_iff_iff]
  unfold formB btw
  simp only [Bool.and_eq_true, decide_eq_true_eq, bne_iff_ne, ne_eq]
  constructor
  · intro h; refine ⟨⟨⟨⟨⟨⟨⟨?_, ?_⟩, ?_, ?_⟩, ?_, ?_⟩, ⟨⟨?_, ?_⟩, ?_, ?_⟩, ?_⟩, ?_, ?_⟩, ?_, ?_⟩, ?_, ?_⟩ <;> omega
  · intro h; omega
theorem q13number_spec (n : Int) : Spec Try.prog 33 [aI n] (.r1 (.agg (valD (intV n)))) := by
  refine spec_of T_ok Try.func33 (by dsimp only [Try.f33]) rfl rfl (by simp) fun w F => ?_
  repeat' (first | (with_reducible refine aw_seq ?_) | ((with_reducible refine two_intro ?_ ?_) <;> intro h <;> first | contradiction | (((revert h; intro _)))) | ((with_reducible refine And.intro ?_ ?_); (focus (rfl))) | ((first | ((with_reducible refine aw_regionA T_ok ?_ ?_); kernel_rfl) | (with_reducible refine aw_exit ?_) | ((with_reducible refine aw_condM ?_ ?_); kernel_rfl) | (with_reducible refine aw_ret ?_) ); simp only [↓avP, avQ, avR, forall_const, implies_true, Nat.reduceEqDiff, Nat.reduceAdd, Nat.reduceLeDiff, reduceCtorEq, avS, u8s_by, strOf_by, ty_85, ty_23, ty_9, ty_5]; try simp (disch := omega) only [av_w, av_t1, av_tp, Int.toNat_natCast]))
  exact Sub.aggL (sub_int n)
theorem subDL_refl : ∀ l : List D, SubDL l l
  | [] => trivial
  | _ :: l => ⟨.refl _, subDL_refl l⟩
theorem subEs_refl : ∀ es : List (List D), SubEs es es
  | [] => trivial
  | x :: es => ⟨subDL_refl x, subEs_refl es⟩
theorem q13list_spec (l : List Cd.V) (d0 : List D) : Spec Try.prog 36 [.one (.sl 4 d0 (valsD l))] (.r1 (.agg (valD (.mk 3 0 [] l)))) := by
  refine spec_of T_ok Try.func36 (by dsimp only [Try.f36]) rfl rfl (by simp) fun w F => ?_
  repeat' (first | (with_reducible refine aw_seq ?_) | ((with_reducible refine two_intro ?_ ?_) <;> intro h <;> first | contradiction | (((revert h; intro _)))) | ((with_reducible refine And.intro ?_ ?_); (focus (rfl))) | ((first | ((with_reducible refine aw_regionA T_ok ?_ ?_); kernel_rfl) | (with_reducible refine aw_exit ?_) | ((with_reducible refine aw_condM ?_ ?_); kernel_rfl) | (with_reducible refine aw_ret ?_) ); simp only [↓avP, avQ, avR, forall_const, implies_true, Nat.reduceEqDiff, Nat.reduceAdd, Nat.reduceLeDiff, reduceCtorEq, avS, u8s_by, strOf_by, ty_85, ty_23, ty_9, ty_5]; try simp (disch := omega) only [av_w, av_t1, av_tp, Int.toNat_natCast]))
  exact Sub.aggL ⟨.refl _, .refl _, .refl _, .sl (subEs_refl _), trivial⟩
theorem rootD_get (l : List UInt8) (k : Nat) (hk : k < l.length) : ((dV (rootD l)).drop k).head? = some (.d (.c (.int .u8 (l[k].toNat : Int)))) := by
  rw [List.head?_drop]
  simp [dV, rootD, List.getElem?_map, List.getElem?_eq_getElem hk]
theorem q13text_spec (r : Vector UInt8 32) : Spec Try.prog 34 [.agg (rootD r.toList)] (.r1 (.agg (valD (.mk 2 0 r.toList [])))) := by
  have hl : r.toList.length = 32 := by simp
  generalize r.toList = l at *
  have hln : (dV (rootD l)).length = 32 := by rw [dV_len, rootD_ln, hl]
  have hln2 : (rootD l).length = 32 := by rw [rootD_ln, hl]
  have htk : (dV (rootD l)).take 32 = dV (rootD l) := List.take_of_length_le (by omega)
  refine spec_of T_ok Try.func34 (by dsimp only [Try.f34]) rfl rfl (by simp) fun w F => ?_
  repeat' (first | (with_reducible refine aw_seq ?_) | ((with_reducible refine And.intro ?_ ?_); (focus (first | rfl | decide))) | (with_reducible refine aw_block ?_) | ((((with_reducible refine aw_regionA T_ok ?_ ?_); kernel_rfl)); simp only [↓avP, avQ, avR, forall_const, implies_true, Nat.reduceEqDiff, Nat.reduceAdd, Nat.reduceLT, reduceCtorEq, avS, ty_85, ty_23, ty_5]; try simp (disch := omega) only [av_w, av_t1, av_tp, Int.toNat_natCast]))
  refine aw_loopI (fun k : Nat => ⟨[(1, .ptr 0 0), (2, .ptr 1 0), (3, .ow 2 1 (byD 0) ((l.take k).map byD)), (4, vI k)], [(2, .tok 5 1 (l.take k).length), (1, .cells 85 [vI 0, vI 0, .d (.c (.string ⟨#[]⟩)), .d (.c (.slice none 0 0))]), (0, .cells 42 (dV (rootD l)))], 3⟩) (fun k => k ≤ 32) (fun k => 32 - k) 0 (Nat.zero_le _) (wk_of [(0, some 0), (1, some 1), (2, some 2)] rfl rfl ?_ ?_) ?_
  · simp only [wkA, reduceIte, Nat.reduceEqDiff]
    (repeat' (first | rfl | exact subVs_d _ _ | refine And.intro ?_ ?_))
  · simp only [wkA, reduceIte, Nat.reduceEqDiff]
    (repeat' (first | rfl | exact subVs_d _ _ | refine And.intro ?_ ?_))
  intro k hk
  rcases Nat.lt_or_ge k 32 with hlt | hge
  · have hd2 : decide ((k : Int) < 32) = true := decide_eq_true (by omega)
    have hg := rootD_get l k (by omega)
    have hts : (l.take (k + 1)).map byD = (l.take k).map byD ++ [byD (getElem l k (by omega))] := by
      rw [List.take_succ_eq_append_getElem (by omega), List.map_append]; rfl
    repeat' (first | (with_reducible refine aw_seq ?_) | ((with_reducible refine two_intro ?_ ?_) <;> intro h <;> first | contradiction | (((guard_hyp h : true = true; clear h)))) | ((with_reducible refine And.intro ?_ ?_); (focus (first | omega | rfl | decide | grind))) | (with_reducible refine aw_block ?_) | ((first | ((with_reducible refine aw_regionA T_ok ?_ ?_); kernel_rfl) | (with_reducible refine aw_skip ?_) | ((with_reducible refine aw_condM ?_ ?_); kernel_rfl) ); simp only [↓avP, avQ, avR, forall_const, implies_true, Nat.reduceEqDiff, Nat.reduceAdd, Nat.reduceLeDiff, Nat.reduceLT, reduceCtorEq, ty_42, ty_23, ty_5, hd2, hg]; try simp (disch := omega) only [av_w]))
    refine ⟨k + 1, by omega, by dsimp only; omega, wk_of [(0, some 0), (1, some 1), (2, some 4)] rfl rfl ?_ ?_⟩
    · simp only [wkA, reduceIte, Nat.reduceEqDiff, hts]
      (repeat' (first | rfl | exact subVs_d _ _ | refine And.intro ?_ ?_))
    · simp only [wkA, reduceIte, Nat.reduceEqDiff]
      repeat' (first | exact subVs_d _ _ | refine And.intro ?_ ?_ | (simp; omega))
  · obtain rfl : k = 32 := by omega
    repeat' (first | (with_reducible refine aw_seq ?_) | ((with_reducible refine two_intro ?_ ?_) <;> intro h <;> first | contradiction | (((revert h; intro _)))) | ((with_reducible refine And.intro ?_ ?_); (focus (rfl))) | ((first | ((with_reducible refine aw_regionA T_ok ?_ ?_); kernel_rfl) | (with_reducible refine aw_exit ?_) | ((with_reducible refine aw_condM ?_ ?_); kernel_rfl) | (with_reducible refine aw_ret ?_) ); simp only [↓avP, avQ, avR, forall_const, implies_true, Nat.reduceEqDiff, Nat.reduceAdd, Nat.reduceLeDiff, reduceCtorEq, avS, u8s_by, strOf_by, ty_85, ty_23, ty_9, ty_5]; try simp (disch := omega) only [av_w, av_t1, av_tp, Int.toNat_natCast]))
    rw [List.take_of_length_le (by omega)]
    exact Sub.aggL (sub_text l)
theorem bless_cmp : ∀ a b : List UInt8, Op.bytesLess a b = decide (cmpB a b < 0)
  | a, [] => by cases a <;> rfl
  | [], _ :: _ => rfl
  | x :: a, y :: b => by
    have ih := bless_cmp a b
    unfold cmpB at ih ⊢
    rw [Op.bytesLess, Lib.compareBytes, ih]
    by_cases h1 : x < y
    · simp [h1]
    · by_cases h2 : y < x
      · have : ¬ x = y := fun e => by subst e; simp [UInt8.lt_iff_toNat_lt] at h2
        simp [h1, h2, this]
      · have : x = y := by simp only [UInt8.lt_iff_toNat_lt] at h1 h2; exact UInt8.toNat_inj.1 (by omega)
        simp [h1, h2, this]

theorem valD_ln (v : Cd.V) : (valD v).length = 4 := by cases v; rfl
theorem q54message_spec (h : Hd) (hh : hOk h) : Spec Try.prog 18 [.agg (handD h)] (.r1 (.one (bsD (msg h)))) := by
  have henc := rcdEnc_spec (msgV h) (msg_vOk h hh) (by rw [msg_depth]; omega) (by have := msg_len h; exact Nat.le_trans this (by omega))
  rw [msg_out, msg_chk] at henc
  have hl := fun d0 => q13list_spec [intV h.line, intV h.at_, intV h.arr, intV h.leg, intV h.frm, intV h.to_, intV h.many, .mk 2 0 h.root.toList [], intV h.time, intV h.se, intV h.ss] d0
  simp only [valsD] at hl
  rw [show Cd.V.mk 3 0 [] [intV h.line, intV h.at_, intV h.arr, intV h.leg, intV h.frm, intV h.to_, intV h.many, .mk 2 0 h.root.toList [], intV h.time, intV h.se, intV h.ss] = msgV h from rfl] at hl
  have hl4 := valD_ln (msgV h)
  generalize valD (msgV h) = vm at *
  refine spec_of T_ok Try.func18 (by dsimp only [Try.f18]) rfl rfl (by simp) fun w F => ?_
  repeat' (first | (with_reducible refine aw_seq ?_) | ((with_reducible refine two_intro ?_ ?_) <;> intro h <;> first | contradiction | (((revert h; intro _)))) | ((with_reducible refine And.intro ?_ ?_); (focus (first | omega | rfl | decide))) | (with_reducible refine aw_block ?_) | ((first | (with_reducible refine aw_unroll 9 ?_) | ((with_reducible refine un_step ?_ ?_); (focus decide)) | ((with_reducible refine aw_regionA T_ok ?_ ?_); kernel_rfl) | ((with_reducible refine aw_drawnF T_ok ?_ ?_ ?_ ?_); kernel_rfl; kernel_rfl; (focus (decide +kernel))) | ((with_reducible refine callK_intro (q13number_spec _) (by repeat' (first | exact ta_n | refine ta_d ?_)) ?_ ?_); kernel_rfl) | ((with_reducible refine callI_spec (q13number_spec _) (by repeat' (first | exact ta_n | refine ta_d ?_)) ?_ ?_ ?_); kernel_rfl; kernel_rfl) | ((with_reducible refine callK_intro (q13text_spec h.root) ?_ ?_ ?_); (focus (((repeat' (first | exact ta_n | refine ta_a ?_)); done))); kernel_rfl) | ((with_reducible refine callI_spec (hl _) (by repeat' (first | exact ta_n | refine ta_o ?_)) ?_ ?_ ?_); kernel_rfl; kernel_rfl) | ((with_reducible refine callI_spec (henc) ?_ ?_ ?_ ?_); (focus (((repeat' (first | exact ta_n | refine ta_a ?_)); done))); kernel_rfl; kernel_rfl) | (with_reducible refine aw_skip ?_) | (with_reducible refine aw_exit ?_) | ((with_reducible refine aw_condM ?_ ?_); kernel_rfl) | (with_reducible refine aw_ret ?_) ); simp only [↓avP, avQ, avR, forall_const, implies_true, Nat.reduceEqDiff, Nat.reduceAdd, Nat.reduceSub, Int.reduceToNat, Nat.reduceLeDiff, Nat.reduceLT, reduceCtorEq, avS, Int.reduceAdd, valD_ln, List.getD_cons_zero, List.getD_cons_succ, handS, ty_H, ty_3, ty_40, ty_44, ty_42, ty_85, ty_82, ty_83, List.length_drop]; try simp (disch := omega) only [av_w]))
  exact Sub.refl _
theorem q54before_spec (a b : Hd) (ha : hOk a) (hb : hOk b) : Spec Try.prog 37 [.agg (handD a), .agg (handD b)] (.r1 (aB (befB a b))) := by
  have m1 := q54message_spec a ha
  have m2 := q54message_spec b hb
  have l1 : (msg a).length ≤ 140737488351232 := by have := msg_len a; omega
  have l2 : (msg b).length ≤ 140737488351232 := by have := msg_len b; omega
  have hbl := bless_cmp (msg a) (msg b)
  refine spec_of T_ok Try.func37 (by dsimp only [Try.f37]) rfl rfl (by simp) fun w F => ?_
  repeat' (first | (with_reducible refine aw_seq ?_) | ((first | ((with_reducible refine aw_regionA T_ok ?_ ?_); kernel_rfl) | ((with_reducible refine aw_drawnA T_ok ?_ ?_ ?_ ?_); kernel_rfl; kernel_rfl; (focus (decide +kernel))) | ((with_reducible refine callK_intro (m1) ?_ ?_ ?_); (focus (((repeat' (first | exact ta_n | refine ta_a ?_)); done))); kernel_rfl) | ((with_reducible refine callK_intro (m2) ?_ ?_ ?_); (focus (((repeat' (first | exact ta_n | refine ta_a ?_)); done))); kernel_rfl) | (with_reducible refine aw_ret ?_) ); simp only [↓avP, avQ, avR, forall_const, implies_true, Nat.reduceEqDiff, Nat.reduceAdd, Nat.reduceLeDiff, reduceCtorEq, avS, handS, u8s_by, strOf_by, str_tl, ty_H, ty_23, ty_9, ty_5, hbl]; try simp (disch := omega) only [av_w, av_t1, av_tp, Int.toNat_natCast]))
  exact Sub.refl _
end Go.Proofs.Ythidfoohhhkobaa

