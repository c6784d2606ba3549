import Derived.Test.YtfmefdeldgmhpaaHA1
namespace Go.Proofs.Ytfmefdeldgmhpaa
set_option linter.unusedSimpArgs false
set_option linter.unusedVariables false
structure Ent where
  no : Int
  kind : Int
  a : Int
  b : Int
  frm : Int
  til : Int
  known : Int
  gone : Int
  deriving DecidableEq
def Ent.key (x : Ent) : Int × Int := (x.kind, x.a)
def idB (n : Int) : Bool := decide (0 ≤ n) && decide (n ≤ 1048576)
def countsB (day time : Int) (x : Ent) : Bool := decide (x.frm ≤ day) && decide (day < x.til) && decide (x.known ≤ time) && decide (time < x.gone)
def oneB (x : Ent) : Bool := x.kind == 1 || x.kind == 2
def replB (y x : Ent) : Bool := y.key == x.key && oneB x && (decide (x.frm < y.frm) || y.frm == x.frm && decide (x.no < y.no))
/-- the specification: what stands -/
def standRef (day time : Int) (l : List Ent) : List Ent := l.filter (fun x => countsB day time x && !(l.any (fun y => countsB day time y && replB y x)))
abbrev KMap := Int × Int → Option Ent
def KMap.upd (m : KMap) (y : Ent) : KMap := fun κ => if κ = y.key then some y else m κ
def KMap.put (m : KMap) (y : Ent) : KMap := match m y.key with
  | some o => if o.frm ≤ y.frm then m.upd y else m
  | none => m.upd y
/-- the last one of each kind and person -/
def lastE (c : List Ent) : KMap := c.foldl KMap.put (fun _ => none)
/-- the code: what stands -/
def standSrc (day time : Int) (l : List Ent) : List Ent :=
  (l.filter (countsB day time)).filter (fun y => !oneB y || lastE (l.filter (countsB day time)) y.key == some y)
def LastOf (p : List Ent) (m : KMap) : Prop := ∀ κ, match m κ with
  | none => ∀ z ∈ p, z.key ≠ κ
  | some y => y ∈ p ∧ y.key = κ ∧ ∀ z ∈ p, z.key = κ → z.frm < y.frm ∨ (z.frm = y.frm ∧ z.no ≤ y.no)
theorem LastOf.upd {p : List Ent} {m : KMap} {y : Ent} (h : LastOf p m) (hmax : ∀ z ∈ p, z.key = y.key → z.frm < y.frm ∨ (z.frm = y.frm ∧ z.no ≤ y.no)) : LastOf (p ++ [y]) (m.upd y) := by
  intro κ
  unfold KMap.upd
  by_cases hk : κ = y.key
  · subst hk
    rw [if_pos rfl]
    refine ⟨by simp, rfl, fun z hz hzk => ?_⟩
    rcases List.mem_append.1 hz with hz | hz
    · exact hmax z hz hzk
    · rw [List.mem_singleton.1 hz]; exact .inr ⟨rfl, Int.le_refl _⟩
  · rw [if_neg hk]
    have hκ := h κ
    cases hm : m κ with
    | none =>
      rw [hm] at hκ
      intro z hz
      rcases List.mem_append.1 hz with hz | hz
      · exact hκ z hz
      · rw [List.mem_singleton.1 hz]; exact fun e => hk e.symm
    | some o =>
      rw [hm] at hκ
      obtain ⟨h1, h2, h3⟩ := hκ
      refine ⟨List.mem_append_left _ h1, h2, fun z hz hzk => ?_⟩
      rcases List.mem_append.1 hz with hz | hz
      · exact h3 z hz hzk
      · rw [List.mem_singleton.1 hz] at hzk; exact absurd hzk.symm hk
theorem LastOf.put {p : List Ent} {m : KMap} {y : Ent} (h : LastOf p m) (hno : ∀ z ∈ p, z.no < y.no) : LastOf (p ++ [y]) (m.put y) := by
  have hk := h y.key
  unfold KMap.put
  cases hm : m y.key with
  | none =>
    rw [hm] at hk
    exact h.upd (fun z hz hzk => absurd hzk (hk z hz))
  | some o =>
    rw [hm] at hk
    obtain ⟨h1, h2, h3⟩ := hk
    by_cases hf : o.frm ≤ y.frm
    · simp only [hf, if_true]
      exact h.upd (fun z hz hzk => by have a1 := h3 z hz hzk; have a2 := hno z hz; omega)
    · simp only [hf, if_false]
      intro κ
      have hκ := h κ
      cases hm' : m κ with
      | none =>
        rw [hm'] at hκ
        intro z hz
        rcases List.mem_append.1 hz with hz | hz
        · exact hκ z hz
        · rw [List.mem_singleton.1 hz]
          intro e
          rw [← e, hm] at hm'
          cases hm'
      | some u =>
        rw [hm'] at hκ
        obtain ⟨g1, g2, g3⟩ := hκ
        refine ⟨List.mem_append_left _ g1, g2, fun z hz hzk => ?_⟩
        rcases List.mem_append.1 hz with hz | hz
        · exact g3 z hz hzk
        · have e := List.mem_singleton.1 hz
          subst e
          rw [← hzk, hm] at hm'
          cases hm'
          omega
theorem LastOf.fold : ∀ (c p : List Ent) (m : KMap), LastOf p m → (p ++ c).Pairwise (fun x y => x.no < y.no) → LastOf (p ++ c) (c.foldl KMap.put m)
  | [], p, m, h, _ => by simpa using h
  | y :: c, p, m, h, hp => by
    have e : p ++ y :: c = (p ++ [y]) ++ c := by simp
    rw [e] at hp ⊢
    refine LastOf.fold c (p ++ [y]) (m.put y) (h.put (fun z hz => ?_)) hp
    have := (List.pairwise_append.1 hp).1
    exact (List.pairwise_append.1 this).2.2 z hz y (by simp)
theorem lastE_of (c : List Ent) (hp : c.Pairwise (fun x y => x.no < y.no)) : LastOf c (lastE c) := by
  have h := LastOf.fold c [] (fun _ => none) (fun κ z hz => by cases hz) (by simpa using hp)
  simpa [lastE] using h
/-- both ways lead to the same -/
theorem stand_eq (day time : Int) (l : List Ent) (hp : l.Pairwise (fun x y => x.no < y.no)) : standSrc day time l = standRef day time l := by
  unfold standSrc standRef
  rw [List.filter_filter]
  refine List.filter_congr (fun x hx => ?_)
  have hL := lastE_of (l.filter (countsB day time)) (hp.sublist List.filter_sublist)
  generalize lastE (l.filter (countsB day time)) = m at hL
  cases hc : countsB day time x with
  | false => simp
  | true =>
    simp only [Bool.and_true, Bool.true_and]
    have hxc : x ∈ l.filter (countsB day time) := List.mem_filter.2 ⟨hx, hc⟩
    cases ho : oneB x with
    | false =>
      have : l.any (fun y => countsB day time y && replB y x) = false := by
        rw [List.any_eq_false]
        intro y _
        simp [replB, ho]
      rw [this]
      rfl
    | true =>
      have hk := hL x.key
      cases hm : m x.key with
      | none => rw [hm] at hk; exact absurd rfl (hk x hxc)
      | some u =>
        rw [hm] at hk
        obtain ⟨h1, h2, h3⟩ := hk
        obtain ⟨hul, huc⟩ := List.mem_filter.1 h1
        by_cases hux : u = x
        · subst hux
          have : l.any (fun y => countsB day time y && replB y u) = false := by
            rw [List.any_eq_false]
            intro y hy hh
            simp only [Bool.and_eq_true, replB, beq_iff_eq, Bool.or_eq_true, decide_eq_true_eq] at hh
            have := h3 y (List.mem_filter.2 ⟨hy, hh.1⟩) hh.2.1.1
            omega
          rw [this]
          simp
        · have hne : u.no ≠ x.no := fun e => by
            obtain ⟨i, hi, ei⟩ := List.getElem_of_mem hul
            obtain ⟨j, hj, ej⟩ := List.getElem_of_mem hx
            have hp' := List.pairwise_iff_getElem.1 hp
            rcases Nat.lt_trichotomy i j with hij | hij | hij
            · have := hp' i j hi hj hij
              rw [ei, ej] at this
              omega
            · subst hij
              exact hux (ei.symm.trans ej)
            · have := hp' j i hj hi hij
              rw [ei, ej] at this
              omega
          have : l.any (fun y => countsB day time y && replB y x) = true := by
            rw [List.any_eq_true]
            refine ⟨u, hul, ?_⟩
            have := h3 x hxc rfl
            simp only [Bool.and_eq_true, replB, beq_iff_eq, Bool.or_eq_true, decide_eq_true_eq]
            exact ⟨huc, ⟨h2, ho⟩, by omega⟩
          rw [this]
          simp [hux]
end Go.Proofs.Ytfmefdeldgmhpaa


namespace Go.Proofs.Ytfmefdeldgmhpaa
set_option linter.unusedSimpArgs false
set_option linter.unusedVariables false
def spanB (x y : Int) : Bool := decide (0 ≤ x) && decide (x < y) && decide (y ≤ 2097152)
def fitsB (x : Ent) : Bool :=
  if x.kind = 1 then decide (0 ≤ x.b) && decide (x.b < 24) else if x.kind = 2 then !(x.a == x.b) && idB x.b else if x.kind = 3 ∨ x.kind = 4 then x.b == 0 else false
def validE (x : Ent) : Bool := idB x.no && idB x.a && spanB x.frm x.til && spanB x.known x.gone && fitsB x
def goodL : Int → List Ent → Bool
  | _, [] => true
  | last, x :: r => validE x && decide (last < x.no) && goodL x.no r
def checkL (l : List Ent) : Int := if 1024 < l.length then 2 else if goodL (-1) l then 0 else 330
theorem goodL_spec : ∀ (l : List Ent) (last : Int), goodL last l = true → (∀ x ∈ l, last < x.no) ∧ l.Pairwise (fun x y => x.no < y.no) ∧ ∀ x ∈ l, validE x = true
  | [], _, _ => ⟨by simp, List.Pairwise.nil, by simp⟩
  | x :: r, last, h => by
    simp only [goodL, Bool.and_eq_true, decide_eq_true_eq] at h
    obtain ⟨⟨h1, h2⟩, h3⟩ := h
    obtain ⟨g1, g2, g3⟩ := goodL_spec r x.no h3
    refine ⟨fun y hy => ?_, List.pairwise_cons.2 ⟨g1, g2⟩, fun y hy => ?_⟩
    · rcases List.mem_cons.1 hy with rfl | hy
      · exact h2
      · have := g1 y hy; omega
    · rcases List.mem_cons.1 hy with rfl | hy
      · exact h1
      · exact g3 y hy
theorem checkL_ok {l : List Ent} (h : checkL l = 0) : l.length ≤ 1024 ∧ l.Pairwise (fun x y => x.no < y.no) ∧ ∀ x ∈ l, validE x = true := by
  unfold checkL at h
  split at h
  · cases h
  · split at h
    · rename_i h1 h2
      obtain ⟨_, g2, g3⟩ := goodL_spec l (-1) h2
      exact ⟨by omega, g2, g3⟩
    · cases h
/-- the people who are asked from p on, and whether they are a circle; those of met were asked before -/
def chainF (nx : Int → Option Int) : Nat → List Int → Int → List Int × Bool
  | 0, _, p => ([p], false)
  | n + 1, met, p => match nx p with
    | none => ([p], false)
    | some q => if q ∈ p :: met then ([p], true) else (p :: (chainF nx n (p :: met) q).1, (chainF nx n (p :: met) q).2)
theorem filter_shrinks (K met : List Int) (p : Int) (hp : p ∈ K) (hm : p ∉ met) : (K.filter (fun x => decide (x ∉ p :: met))).length < (K.filter (fun x => decide (x ∉ met))).length := by
  induction K with
  | nil => cases hp
  | cons k K ih =>
    have hle : (K.filter (fun x => decide (x ∉ p :: met))).length ≤ (K.filter (fun x => decide (x ∉ met))).length := by
      have e : K.filter (fun x => decide (x ∉ p :: met)) = (K.filter (fun x => decide (x ∉ met))).filter (fun x => decide (x ≠ p)) := by
        rw [List.filter_filter]
        refine List.filter_congr (fun x _ => ?_)
        simp [List.mem_cons, not_or]
      rw [e]
      exact List.length_filter_le _ _
    by_cases hk : k = p
    · subst hk
      rw [List.filter_cons, List.filter_cons, if_neg (by simp), if_pos (by simpa using hm)]
      simp only [List.length_cons]
      omega
    · have hpK : p ∈ K := by
        rcases List.mem_cons.1 hp with e | h
        · exact absurd e.symm hk
        · exact h
      have := ih hpK
      rw [List.filter_cons, List.filter_cons]
      by_cases hkm : k ∈ met
      · rw [if_neg (by simp [hkm]), if_neg (by simp [hkm])]
        exact this
      · rw [if_pos (by simp [hkm, hk]), if_pos (by simp [hkm])]
        simp only [List.length_cons]
        omega
/-- more rounds change nothing -/
theorem chainF_more (nx : Int → Option Int) (K : List Int) (hK : ∀ p, nx p ≠ none → p ∈ K) : ∀ (n : Nat) (met : List Int) (p : Int), p ∉ met → (K.filter (fun x => decide (x ∉ met))).length ≤ n → ∀ m, n ≤ m → chainF nx m met p = chainF nx n met p := by
  intro n
  induction n with
  | zero =>
    intro met p hp hn m _
    have hnx : nx p = none := by
      cases h : nx p with
      | none => rfl
      | some q =>
        have hpK := hK p (by rw [h]; simp)
        have := filter_shrinks K met p hpK hp
        omega
    cases m with
    | zero => rfl
    | succ m => simp [chainF, hnx]
  | succ n ih =>
    intro met p hp hn m hm
    cases m with
    | zero => omega
    | succ m =>
      simp only [chainF]
      cases h : nx p with
      | none => rfl
      | some q =>
        simp only []
        by_cases hq : q ∈ p :: met
        · rw [if_pos hq, if_pos hq]
        · rw [if_neg hq, if_neg hq]
          have hpK := hK p (by rw [h]; simp)
          have hs := filter_shrinks K met p hpK hp
          have e := ih (p :: met) q hq (by omega) m (by omega)
          rw [e]
end Go.Proofs.Ytfmefdeldgmhpaa

