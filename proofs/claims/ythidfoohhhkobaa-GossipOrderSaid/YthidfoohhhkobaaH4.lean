import Derived.Test.YthidfoohhhkobaaH3
import Derived.ChangeKeysEq
import Derived.Test.YthidfoohhhkobaaH1
import Derived.Test.YthidfoohhhkobaaProg
import Derived.Test.YthidfoohhhkobaaH2
namespace Go.Proofs.Ythidfoohhhkobaa
set_option linter.unusedVariables false
set_option linter.unusedSimpArgs false
open Go.RowKit
section
variable {P : Program}
def EqT (P : Program) (t : TypeId) (ks : List IntKind) (D : Nat) : Prop :=
  (∃ k, P.underlying t = some (.int k) ∧ ks = [k] ∧ 1 ≤ D) ∨ ((∀ w, (isAgg t).run P w = .ok true w) ∧ (∀ w, (sizeOf t).run P w = .ok ks.length w) ∧
    ∀ d, D ≤ d → ∀ w a b, a.map (·.1) = ks → b.map (·.1) = ks → (Op.equalIn d t (.agg (kvals a).toArray) (.agg (kvals b).toArray)).run P w = .ok (a == b) w)
theorem kvals_app (a b : List (IntKind × Int)) : kvals (a ++ b) = kvals a ++ kvals b := by simp [kvals]
theorem beq_split {a1 a2 b1 b2 : List (IntKind × Int)} (h : a1.length = b1.length) : (a1 ++ a2 == b1 ++ b2) = ((a1 == b1) && (a2 == b2)) := by
  rw [Bool.eq_iff_iff]
  simp only [beq_iff_eq, Bool.and_eq_true]
  constructor
  · intro e; exact List.append_inj e h
  · rintro ⟨rfl, rfl⟩; rfl
theorem eqT_step {t : TypeId} {ks : List IntKind} {D d k : Nat} (hE : EqT P t ks D) (hd : D ≤ d) (w : World) (p q a b u v : List (IntKind × Int)) (hp : p.length = k) (hq : q.length = k) (ha : a.map (·.1) = ks) (hb : b.map (·.1) = ks) :
    ∃ x y, (part t (kvals (p ++ a ++ u)).toArray k).run P w = .ok x w ∧ (part t (kvals (q ++ b ++ v)).toArray k).run P w = .ok y w ∧ (Op.equalIn d t x y).run P w = .ok (a == b) w := by
  have hla : a.length = ks.length := by simpa using congrArg List.length ha
  have hlb : b.length = ks.length := by simpa using congrArg List.length hb
  rcases hE with ⟨kk, hu, rfl, hD⟩ | ⟨hagg, hsz, hE⟩
  · obtain ⟨⟨ka, na⟩, rfl⟩ : ∃ c, a = [c] := by match a, hla with | [c], _ => exact ⟨c, rfl⟩
    obtain ⟨⟨kb, nb⟩, rfl⟩ : ∃ c, b = [c] := by match b, hlb with | [c], _ => exact ⟨c, rfl⟩
    have ha : kk = ka := by simpa using ha.symm
    have hb : kk = kb := by simpa using hb.symm
    subst ha; subst hb
    have pt : ∀ (p u : List (IntKind × Int)) (n : Int), p.length = k → (part t (kvals (p ++ [(kk, n)] ++ u)).toArray k).run P w = .ok (.int kk n) w := fun p u n hp => by
      have : (kvals (p ++ [(kk, n)] ++ u)).toArray[k]? = some (.int kk n) := by rw [← hp]; simp [kvals]
      unfold part
      simp only [Sem.run_bind, isAgg, run_underlying hu, Result.andThen_ok, Sem.run_pure, Bool.false_eq_true, if_false, this]
    obtain ⟨d', rfl⟩ : ∃ d', d = d' + 1 := ⟨d - 1, by omega⟩
    refine ⟨_, _, pt p u na hp, pt q v nb hq, ?_⟩
    rw [run_equalIn_int w d' t kk kk na nb hu]
    congr 1
    rw [Bool.eq_iff_iff]
    simp
  · have pt : ∀ (p a u : List (IntKind × Int)), p.length = k → a.length = ks.length → (part t (kvals (p ++ a ++ u)).toArray k).run P w = .ok (.agg (kvals a).toArray) w := fun p a u hp ha => by
      unfold part
      simp only [Sem.run_bind, hagg, Result.andThen_ok, if_true, hsz, Sem.run_pure]
      congr 2
      apply Array.ext'
      simp only [Array.toList_extract, List.extract_eq_take_drop, kvals_app]
      have h1 : (kvals p).length = k := by simp [kvals, hp]
      have h2 : (kvals a).length = ks.length := by simp [kvals, ha]
      rw [List.append_assoc, ← h1, List.drop_left, show (kvals p).length + ks.length - (kvals p).length = (kvals a).length by omega, List.take_left]
    exact ⟨_, _, pt p a u hp hla, pt q b v hq hlb, hE d hd w a b ha hb⟩
def FieldsK (P : Program) (D : Nat) : Nat → List Field → List (List IntKind) → Prop
  | _, [], [] => True
  | k, f :: fs, ks :: kss => (f.offset = k ∧ f.name ≠ "_" ∧ EqT P f.type ks D) ∧ FieldsK P D (k + ks.length) fs kss
  | _, _, _ => False
theorem run_eqFieldsK {D d : Nat} (hd : D ≤ d) (w : World) : ∀ (fs : List Field) (kss : List (List IntKind)) (k : Nat) (p q a b : List (IntKind × Int)), FieldsK P D k fs kss → p.length = k → q.length = k → a.map (·.1) = kss.flatten → b.map (·.1) = kss.flatten →
    (Op.eqFields d (kvals (p ++ a)).toArray (kvals (q ++ b)).toArray fs).run P w = .ok (a == b) w
  | [], [], k, p, q, a, b, _, _, _, ha, hb => by
    simp at ha hb
    subst ha; subst hb
    simp [Op.eqFields]
  | f :: fs, ks :: kss, k, p, q, a, b, h, hp, hq, ha, hb => by
    obtain ⟨⟨h1, h2, h3⟩, h4⟩ := h
    have split : ∀ a : List (IntKind × Int), a.map (·.1) = (ks :: kss).flatten → ∃ a1 a2, a = a1 ++ a2 ∧ a1.map (·.1) = ks ∧ a2.map (·.1) = kss.flatten := fun a ha => by
      refine ⟨a.take ks.length, a.drop ks.length, (List.take_append_drop _ _).symm, ?_, ?_⟩
      · rw [List.map_take, ha, List.flatten_cons, List.take_left]
      · rw [List.map_drop, ha, List.flatten_cons, List.drop_left]
    obtain ⟨a1, a2, rfl, ha1, ha2⟩ := split a ha
    obtain ⟨b1, b2, rfl, hb1, hb2⟩ := split b hb
    have hla : a1.length = ks.length := by simpa using congrArg List.length ha1
    have hlb : b1.length = ks.length := by simpa using congrArg List.length hb1
    obtain ⟨x, y, e1, e2, e3⟩ := eqT_step h3 hd w p q a1 b1 a2 b2 hp hq ha1 hb1
    rw [List.append_assoc] at e1 e2
    have ih := run_eqFieldsK hd w fs kss (k + ks.length) (p ++ a1) (q ++ b1) a2 b2 h4 (by simp [hp, hla]) (by simp [hq, hlb]) ha2 hb2
    simp only [List.append_assoc] at ih
    simp only [Op.eqFields, h2, ne_eq, not_false_eq_true, if_true, Sem.run_bind, h1, e1, e2, Result.andThen_ok, e3, beq_split (hla.trans hlb.symm)]
    cases hc : (a1 == b1)
    · simp
    · simpa using ih
  | [], _ :: _, _, _, _, _, _, h, _, _, _, _ => h.elim
  | _ :: _, [], _, _, _, _, _, h, _, _, _, _ => h.elim
theorem eqT_struct {t : TypeId} {D : Nat} {kss : List (List IntKind)} {n : Nat} (ht : P.underlying t = some (.struct (P.fieldsOf t))) (hp : P.stoodInHeld t = false) (hsz : (P.info? t).map (·.size) = some n) (hn : n = kss.flatten.length) (hF : FieldsK P D 0 (P.fieldsOf t).toList kss) : EqT P t kss.flatten (D + 1) := by
  refine .inr ⟨fun w => by unfold Go.isAgg; rw [Sem.run_bind, run_underlying ht w]; rfl, fun w => ?_, fun d hd w a b ha hb => ?_⟩
  · cases hi : P.info? t with
    | none => rw [hi] at hsz; cases hsz
    | some j => rw [hi] at hsz; simp at hsz; simp [Go.sizeOf, typeInfo, hi, hsz, hn]
  · obtain ⟨d', rfl⟩ : ∃ d', d = d' + 1 := ⟨d - 1, by omega⟩
    rw [run_equalIn_struct w d' t _ _ ht hp]
    exact run_eqFieldsK (by omega) w _ kss 0 [] [] a b hF rfl rfl ha hb
theorem run_eqItemsK {e : TypeId} {kk : IntKind} (he : P.underlying e = some (.int kk)) (d : Nat) (w : World) : ∀ (n k : Nat) (p q a b : List (IntKind × Int)), p.length = k → q.length = k → a.map (·.1) = List.replicate n kk → b.map (·.1) = List.replicate n kk →
    (Op.eqItems (d + 1) e 1 (kvals (p ++ a)).toArray (kvals (q ++ b)).toArray (List.range' k n)).run P w = .ok (a == b) w
  | 0, k, p, q, a, b, _, _, ha, hb => by
    simp at ha hb
    subst ha; subst hb
    simp [Op.eqItems]
  | n + 1, k, p, q, a, b, hp, hq, ha, hb => by
    have split : ∀ a : List (IntKind × Int), a.map (·.1) = List.replicate (n + 1) kk → ∃ c a2, a = c :: a2 ∧ [c].map (·.1) = [kk] ∧ a2.map (·.1) = List.replicate n kk := fun a ha => by
      cases a with
      | nil => simp at ha
      | cons c a2 => rw [List.map_cons, List.replicate_succ, List.cons.injEq] at ha; exact ⟨c, a2, rfl, by simp [ha.1], ha.2⟩
    obtain ⟨a1, a2, rfl, ha1, ha2⟩ := split a ha
    obtain ⟨b1, b2, rfl, hb1, hb2⟩ := split b hb
    obtain ⟨x, y, e1, e2, e3⟩ := eqT_step (P := P) (D := 1) (d := d + 1) (.inl ⟨kk, he, rfl, Nat.le_refl _⟩) (by omega) w p q [a1] [b1] a2 b2 hp hq ha1 hb1
    have ih := run_eqItemsK he d w n (k + 1) (p ++ [a1]) (q ++ [b1]) a2 b2 (by simp [hp]) (by simp [hq]) ha2 hb2
    simp only [List.append_assoc, List.cons_append, List.nil_append] at ih e1 e2
    simp only [List.range'_succ, Op.eqItems, Sem.run_bind, Nat.mul_one, e1, e2, Result.andThen_ok, e3]
    have hbs := beq_split (a1 := [a1]) (a2 := a2) (b1 := [b1]) (b2 := b2) rfl
    simp only [List.cons_append, List.nil_append] at hbs
    rw [hbs]
    cases hc : ([a1] == [b1])
    · simp
    · simpa using ih
theorem eqT_arr {t e : TypeId} {kk : IntKind} {n : Nat} {i : TypeInfo} (ht : P.underlying t = some (.array n e)) (he : P.underlying e = some (.int kk)) (hi : P.info? e = some i) (hc : P.cellsOf e = 1) (hsz : (P.info? t).map (·.size) = some n) : EqT P t (List.replicate n kk) 2 := by
  refine .inr ⟨fun w => by unfold Go.isAgg; rw [Sem.run_bind, run_underlying ht w]; rfl, fun w => ?_, fun d hd w a b ha hb => ?_⟩
  · cases hi : P.info? t with
    | none => rw [hi] at hsz; cases hsz
    | some j => rw [hi] at hsz; simp at hsz; simp [Go.sizeOf, typeInfo, hi, hsz]
  · obtain ⟨d', rfl⟩ : ∃ d', d = d' + 2 := ⟨d - 2, by omega⟩
    rw [run_equalIn_array w (d' + 1) _ _ ht hi, hc, List.range_eq_range']
    exact run_eqItemsK he d' w n 0 [] [] a b rfl rfl ha hb
theorem EqT.up {t : TypeId} {ks : List IntKind} {D D' : Nat} (hD : D ≤ D') (h : EqT P t ks D) : EqT P t ks D' := by
  rcases h with ⟨k, h1, h2, h3⟩ | ⟨h1, h2, h3⟩
  · exact .inl ⟨k, h1, h2, by omega⟩
  · exact .inr ⟨h1, h2, fun d hd => h3 d (by omega)⟩
theorem eqK_of {t : TypeId} {ks : List IntKind} {D : Nat} (hE : EqT P t ks D) (hD : D ≤ 10000) (ha : ∀ w, (isAgg t).run P w = .ok true w) (hm : P.eqGuardType P.depth t = false) : EqKInts P t ks := by
  intro w x y a b ha' hb' op hop
  have he : (Op.equalIn 10000 t (.agg (kvals a).toArray) (.agg (kvals b).toArray)).run P w = .ok (a == b) w := by
    rcases hE with ⟨k, h1, h2, _⟩ | ⟨_, _, h3⟩
    · have := ha w
      unfold Go.isAgg at this
      rw [Sem.run_bind, run_underlying h1 w] at this
      simp at this
    · exact h3 10000 hD w a b ha' hb'
  rcases hop with rfl | rfl
  · simp only [Sem.run_bind, run_eqGuard_agg w _ t x y _ _ hm, Result.andThen_ok, run_eql_struct, he]
    rfl
  · simp only [Sem.run_bind, run_eqGuard_agg w _ t x y _ _ hm, Result.andThen_ok, run_neq_struct, he]
    rfl
def fieldsB (tab : List (TypeId × List IntKind)) : Nat → List Field → List (List IntKind) → Bool
  | _, [], [] => true
  | k, f :: fs, ks :: kss => f.offset == k && f.name != "_" && tab.any (fun p => decide (p.1 = f.type ∧ p.2 = ks)) && fieldsB tab (k + ks.length) fs kss
  | _, _, _ => false
theorem fieldsK_of {tab : List (TypeId × List IntKind)} {D : Nat} (htab : ∀ p ∈ tab, EqT P p.1 p.2 D) : ∀ (fs : List Field) (kss : List (List IntKind)) (k : Nat), fieldsB tab k fs kss = true → FieldsK P D k fs kss
  | [], [], _, _ => trivial
  | f :: fs, ks :: kss, k, h => by
    simp only [fieldsB, Bool.and_eq_true] at h
    obtain ⟨⟨⟨h1, h2⟩, h3⟩, h4⟩ := h
    obtain ⟨p, hp, hq⟩ := List.any_eq_true.1 h3
    have hq := of_decide_eq_true hq
    refine ⟨⟨by simpa using h1, by simpa using h2, ?_⟩, fieldsK_of htab fs kss _ h4⟩
    rw [← hq.1, ← hq.2]
    exact htab p hp
  | [], _ :: _, _, h => by simp [fieldsB] at h
  | _ :: _, [], _, h => by simp [fieldsB] at h
theorem eqI_of {t : TypeId} {n : Nat} (h : EqKInts P t (List.replicate n .i64)) : EqInts P t n := by
  intro w x y a b ha hb op hop
  have key : ∀ a : List Int, a.map (Value.int .i64) = kvals (a.map fun n => (.i64, n)) := fun a => by simp [kvals]
  have kk : ∀ a : List Int, a.length = n → (a.map fun n => (IntKind.i64, n)).map (·.1) = List.replicate n .i64 := fun a h => List.eq_replicate_iff.2 ⟨by simp [h], by simp⟩
  have hb' : ((a.map fun n => (IntKind.i64, n)) == (b.map fun n => (IntKind.i64, n))) = (a == b) := by
    rw [Bool.eq_iff_iff]
    simp only [beq_iff_eq]
    exact List.map_inj_right (fun x y e => by simpa using e)
  rw [key a, key b, ← hb']
  exact h w x y _ _ (kk a ha) (kk b hb) op hop
end
end Go.Proofs.Ythidfoohhhkobaa


namespace Go.Proofs.Ythidfoohhhkobaa
def T : Tab := [
  (1, ⟨.oth, 1, .nilFunc, 8⟩),
  (2, ⟨.int .i64, 1, .int .i64 0, 8⟩),
  (3, ⟨.int .i64, 1, .int .i64 0, 8⟩),
  (4, ⟨.bool, 1, .bool false, 1⟩),
  (5, ⟨.int .u8, 1, .int .u8 0, 1⟩),
  (9, ⟨.str, 1, .string ⟨#[]⟩, 16⟩),
  (12, ⟨.int .u64, 1, .int .u64 0, 8⟩),
  (13, ⟨.struct [(0, 1), (1, 1)], 2, .agg #[.string ⟨#[]⟩, .int .u64 0], 24⟩),
  (21, ⟨.int .i32, 1, .int .i32 0, 4⟩),
  (22, ⟨.slice 52, 1, .slice none 0 0, 24⟩),
  (23, ⟨.slice 5, 1, .slice none 0 0, 24⟩),
  (24, ⟨.oth, 1, .nilFunc, 8⟩),
  (25, ⟨.slice 55, 1, .slice none 0 0, 24⟩),
  (26, ⟨.slice 63, 1, .slice none 0 0, 24⟩),
  (27, ⟨.slice 93, 1, .slice none 0 0, 24⟩),
  (28, ⟨.struct [(0, 1), (1, 1)], 2, .agg #[.slice none 0 0, .slice none 0 0], 48⟩),
  (29, ⟨.struct [(0, 1), (1, 1)], 2, .agg #[.slice none 0 0, .slice none 0 0], 48⟩),
  (30, ⟨.struct [(0, 1), (1, 2)], 3, .agg #[.slice none 0 0, .slice none 0 0, .slice none 0 0], 72⟩),
  (31, ⟨.struct [(0, 1), (1, 2)], 3, .agg #[.slice none 0 0, .slice none 0 0, .slice none 0 0], 72⟩),
  (32, ⟨.slice 46, 1, .slice none 0 0, 24⟩),
  (34, ⟨.oth, 1, .nilFunc, 8⟩),
  (36, ⟨.oth, 1, .nilFunc, 8⟩),
  (37, ⟨.oth, 1, .nilFunc, 8⟩),
  (38, ⟨.oth, 1, .nilFunc, 8⟩),
  (39, ⟨.struct [(0, 1), (1, 1), (2, 1)], 3, .agg #[.int .i64 0, .int .i64 0, .int .i64 0], 24⟩),
  (40, ⟨.struct [(0, 1), (1, 1), (2, 1)], 3, .agg #[.int .i64 0, .int .i64 0, .int .i64 0], 24⟩),
  (41, ⟨.arr 32 5, 32, .agg #[.int .u8 0, .int .u8 0, .int .u8 0, .int .u8 0, .int .u8 0, .int .u8 0, .int .u8 0, .int .u8 0, .int .u8 0, .int .u8 0, .int .u8 0, .int .u8 0, .int .u8 0, .int .u8 0, .int .u8 0, .int .u8 0, .int .u8 0, .int .u8 0, .int .u8 0, .int .u8 0, .int .u8 0, .int .u8 0, .int .u8 0, .int .u8 0, .int .u8 0, .int .u8 0, .int .u8 0, .int .u8 0, .int .u8 0, .int .u8 0, .int .u8 0, .int .u8 0], 32⟩),
  (42, ⟨.arr 32 5, 32, .agg #[.int .u8 0, .int .u8 0, .int .u8 0, .int .u8 0, .int .u8 0, .int .u8 0, .int .u8 0, .int .u8 0, .int .u8 0, .int .u8 0, .int .u8 0, .int .u8 0, .int .u8 0, .int .u8 0, .int .u8 0, .int .u8 0, .int .u8 0, .int .u8 0, .int .u8 0, .int .u8 0, .int .u8 0, .int .u8 0, .int .u8 0, .int .u8 0, .int .u8 0, .int .u8 0, .int .u8 0, .int .u8 0, .int .u8 0, .int .u8 0, .int .u8 0, .int .u8 0], 32⟩),
  (43, ⟨.struct [(0, 1), (1, 1)], 2, .agg #[.int .i64 0, .int .i64 0], 16⟩),
  (44, ⟨.struct [(0, 1), (1, 1)], 2, .agg #[.int .i64 0, .int .i64 0], 16⟩),
  (45, ⟨.struct [(0, 3), (3, 1), (4, 1), (5, 1), (6, 1), (7, 32), (39, 1), (40, 2)], 42, .agg #[.int .i64 0, .int .i64 0, .int .i64 0, .int .i64 0, .int .i64 0, .int .i64 0, .int .i64 0, .int .u8 0, .int .u8 0, .int .u8 0, .int .u8 0, .int .u8 0, .int .u8 0, .int .u8 0, .int .u8 0, .int .u8 0, .int .u8 0, .int .u8 0, .int .u8 0, .int .u8 0, .int .u8 0, .int .u8 0, .int .u8 0, .int .u8 0, .int .u8 0, .int .u8 0, .int .u8 0, .int .u8 0, .int .u8 0, .int .u8 0, .int .u8 0, .int .u8 0, .int .u8 0, .int .u8 0, .int .u8 0, .int .u8 0, .int .u8 0, .int .u8 0, .int .u8 0, .int .i64 0, .int .i64 0, .int .i64 0], 112⟩),
  (46, ⟨.struct [(0, 3), (3, 1), (4, 1), (5, 1), (6, 1), (7, 32), (39, 1), (40, 2)], 42, .agg #[.int .i64 0, .int .i64 0, .int .i64 0, .int .i64 0, .int .i64 0, .int .i64 0, .int .i64 0, .int .u8 0, .int .u8 0, .int .u8 0, .int .u8 0, .int .u8 0, .int .u8 0, .int .u8 0, .int .u8 0, .int .u8 0, .int .u8 0, .int .u8 0, .int .u8 0, .int .u8 0, .int .u8 0, .int .u8 0, .int .u8 0, .int .u8 0, .int .u8 0, .int .u8 0, .int .u8 0, .int .u8 0, .int .u8 0, .int .u8 0, .int .u8 0, .int .u8 0, .int .u8 0, .int .u8 0, .int .u8 0, .int .u8 0, .int .u8 0, .int .u8 0, .int .u8 0, .int .i64 0, .int .i64 0, .int .i64 0], 112⟩),
  (47, ⟨.oth, 1, .nilFunc, 8⟩),
  (48, ⟨.int .i64, 1, .int .i64 0, 8⟩),
  (50, ⟨.oth, 1, .nilFunc, 8⟩),
  (51, ⟨.struct [(0, 1), (1, 1), (2, 1), (3, 1), (4, 42)], 46, .agg #[.int .i64 0, .int .i64 0, .int .i64 0, .int .i64 0, .int .i64 0, .int .i64 0, .int .i64 0, .int .i64 0, .int .i64 0, .int .i64 0, .int .i64 0, .int .u8 0, .int .u8 0, .int .u8 0, .int .u8 0, .int .u8 0, .int .u8 0, .int .u8 0, .int .u8 0, .int .u8 0, .int .u8 0, .int .u8 0, .int .u8 0, .int .u8 0, .int .u8 0, .int .u8 0, .int .u8 0, .int .u8 0, .int .u8 0, .int .u8 0, .int .u8 0, .int .u8 0, .int .u8 0, .int .u8 0, .int .u8 0, .int .u8 0, .int .u8 0, .int .u8 0, .int .u8 0, .int .u8 0, .int .u8 0, .int .u8 0, .int .u8 0, .int .i64 0, .int .i64 0, .int .i64 0], 144⟩),
  (52, ⟨.struct [(0, 1), (1, 1), (2, 1), (3, 1), (4, 42)], 46, .agg #[.int .i64 0, .int .i64 0, .int .i64 0, .int .i64 0, .int .i64 0, .int .i64 0, .int .i64 0, .int .i64 0, .int .i64 0, .int .i64 0, .int .i64 0, .int .u8 0, .int .u8 0, .int .u8 0, .int .u8 0, .int .u8 0, .int .u8 0, .int .u8 0, .int .u8 0, .int .u8 0, .int .u8 0, .int .u8 0, .int .u8 0, .int .u8 0, .int .u8 0, .int .u8 0, .int .u8 0, .int .u8 0, .int .u8 0, .int .u8 0, .int .u8 0, .int .u8 0, .int .u8 0, .int .u8 0, .int .u8 0, .int .u8 0, .int .u8 0, .int .u8 0, .int .u8 0, .int .u8 0, .int .u8 0, .int .u8 0, .int .u8 0, .int .i64 0, .int .i64 0, .int .i64 0], 144⟩),
  (53, ⟨.oth, 1, .nilFunc, 8⟩),
  (54, ⟨.struct [(0, 1)], 1, .agg #[.slice none 0 0], 24⟩),
  (55, ⟨.struct [(0, 1)], 1, .agg #[.slice none 0 0], 24⟩),
  (56, ⟨.oth, 1, .nilFunc, 8⟩),
  (57, ⟨.oth, 1, .nilFunc, 8⟩),
  (58, ⟨.oth, 1, .nilFunc, 8⟩),
  (59, ⟨.oth, 1, .nilFunc, 8⟩),
  (60, ⟨.oth, 1, .nilFunc, 8⟩),
  (61, ⟨.oth, 1, .nilFunc, 8⟩),
  (62, ⟨.struct [(0, 1), (1, 1), (2, 1)], 3, .agg #[.int .i64 0, .int .i64 0, .slice none 0 0], 40⟩),
  (63, ⟨.struct [(0, 1), (1, 1), (2, 1)], 3, .agg #[.int .i64 0, .int .i64 0, .slice none 0 0], 40⟩),
  (64, ⟨.oth, 1, .nilFunc, 8⟩),
  (66, ⟨.oth, 1, .nilFunc, 8⟩),
  (67, ⟨.oth, 1, .nilFunc, 8⟩),
  (68, ⟨.oth, 1, .nilFunc, 8⟩),
  (69, ⟨.oth, 1, .nilFunc, 8⟩),
  (71, ⟨.oth, 1, .nilFunc, 8⟩),
  (72, ⟨.oth, 1, .pointer none, 8⟩),
  (73, ⟨.map 3 69, 1, .map none, 8⟩),
  (74, ⟨.struct [(0, 3)], 3, .agg #[.slice none 0 0, .slice none 0 0, .slice none 0 0], 72⟩),
  (75, ⟨.struct [(0, 3)], 3, .agg #[.slice none 0 0, .slice none 0 0, .slice none 0 0], 72⟩),
  (76, ⟨.oth, 1, .nilFunc, 8⟩),
  (77, ⟨.oth, 1, .nilFunc, 8⟩),
  (78, ⟨.oth, 1, .nilFunc, 8⟩),
  (79, ⟨.oth, 1, .nilFunc, 8⟩),
  (81, ⟨.oth, 1, .nilFunc, 8⟩),
  (82, ⟨.slice 85, 1, .slice none 0 0, 24⟩),
  (83, ⟨.slice 3, 1, .slice none 0 0, 24⟩),
  (84, ⟨.struct [(0, 1), (1, 1), (2, 1), (3, 1)], 4, .agg #[.int .i64 0, .int .i64 0, .string ⟨#[]⟩, .slice none 0 0], 56⟩),
  (85, ⟨.struct [(0, 1), (1, 1), (2, 1), (3, 1)], 4, .agg #[.int .i64 0, .int .i64 0, .string ⟨#[]⟩, .slice none 0 0], 56⟩),
  (86, ⟨.oth, 1, .nilFunc, 8⟩),
  (87, ⟨.oth, 1, .nilFunc, 8⟩),
  (89, ⟨.oth, 1, .nilFunc, 8⟩),
  (90, ⟨.oth, 1, .nilFunc, 8⟩),
  (91, ⟨.oth, 1, .nilFunc, 8⟩),
  (92, ⟨.oth, 1, .nilFunc, 8⟩),
  (93, ⟨.arr 2 3, 2, .agg #[.int .i64 0, .int .i64 0], 16⟩),
  (94, ⟨.oth, 1, .nilFunc, 8⟩),
  (95, ⟨.oth, 1, .nilFunc, 8⟩),
  (96, ⟨.oth, 1, .nilFunc, 8⟩),
  (97, ⟨.oth, 1, .nilFunc, 8⟩),
  (98, ⟨.oth, 1, .nilFunc, 8⟩),
  (99, ⟨.oth, 1, .nilFunc, 8⟩),
  (100, ⟨.oth, 1, .nilFunc, 8⟩),
  (102, ⟨.oth, 1, .nilFunc, 8⟩),
  (104, ⟨.oth, 1, .nilFunc, 8⟩),
  (105, ⟨.oth, 1, .nilFunc, 8⟩),
  (106, ⟨.arr 2 3, 2, .agg #[.int .i64 0, .int .i64 0], 16⟩),
  (107, ⟨.oth, 1, .nilFunc, 8⟩),
  (108, ⟨.oth, 1, .nilFunc, 8⟩),
  (110, ⟨.oth, 1, .nilFunc, 8⟩),
  (111, ⟨.oth, 1, .pointer none, 8⟩),
  (112, ⟨.arr 11 111, 11, .agg #[.pointer none, .pointer none, .pointer none, .pointer none, .pointer none, .pointer none, .pointer none, .pointer none, .pointer none, .pointer none, .pointer none], 88⟩),
  (113, ⟨.oth, 1, .nilFunc, 8⟩),
  (114, ⟨.oth, 1, .pointer none, 8⟩),
  (115, ⟨.oth, 1, .nilFunc, 8⟩),
  (116, ⟨.oth, 1, .nilFunc, 8⟩),
  (117, ⟨.oth, 1, .pointer none, 8⟩),
  (119, ⟨.oth, 1, .nilFunc, 8⟩),
  (120, ⟨.oth, 1, .nilFunc, 8⟩),
  (121, ⟨.oth, 1, .nilFunc, 8⟩),
  (122, ⟨.oth, 1, .nilFunc, 8⟩),
  (123, ⟨.oth, 1, .nilFunc, 8⟩),
  (125, ⟨.oth, 1, .nilFunc, 8⟩),
  (126, ⟨.oth, 1, .nilFunc, 8⟩),
  (127, ⟨.oth, 1, .nilFunc, 8⟩),
  (128, ⟨.oth, 1, .nilFunc, 8⟩),
  (129, ⟨.oth, 1, .nilFunc, 8⟩),
  (130, ⟨.oth, 1, .nilFunc, 8⟩),
  (131, ⟨.oth, 1, .nilFunc, 8⟩),
  (132, ⟨.oth, 1, .pointer none, 8⟩),
  (133, ⟨.struct [(0, 1)], 1, .agg #[.slice none 0 0], 24⟩),
  (134, ⟨.struct [(0, 1)], 1, .agg #[.slice none 0 0], 24⟩),
  (135, ⟨.oth, 1, .nilFunc, 8⟩),
  (136, ⟨.oth, 1, .nilFunc, 8⟩),
  (137, ⟨.oth, 1, .nilFunc, 8⟩),
  (138, ⟨.oth, 1, .nilFunc, 8⟩),
  (139, ⟨.int .u64, 1, .int .u64 0, 8⟩),
  (140, ⟨.oth, 1, .nilFunc, 8⟩),
  (141, ⟨.struct [(0, 3), (3, 1), (4, 1)], 5, .agg #[.int .i64 0, .int .i64 0, .int .i64 0, .int .i64 0, .int .i64 0], 40⟩),
  (142, ⟨.struct [(0, 3), (3, 1), (4, 1)], 5, .agg #[.int .i64 0, .int .i64 0, .int .i64 0, .int .i64 0, .int .i64 0], 40⟩),
  (143, ⟨.oth, 1, .nilFunc, 8⟩),
  (144, ⟨.int .u64, 1, .int .u64 0, 8⟩),
  (145, ⟨.oth, 1, .nilFunc, 8⟩),
  (146, ⟨.oth, 1, .nilFunc, 8⟩),
  (147, ⟨.struct [(0, 1)], 1, .agg #[.nilFunc], 8⟩),
  (148, ⟨.struct [(0, 1)], 1, .agg #[.nilFunc], 8⟩),
  (149, ⟨.oth, 1, .pointer none, 8⟩),
  (150, ⟨.oth, 1, .nilFunc, 8⟩),
  (151, ⟨.oth, 1, .nilFunc, 8⟩),
  (152, ⟨.oth, 1, .nilFunc, 8⟩),
  (153, ⟨.oth, 1, .nilFunc, 8⟩),
  (154, ⟨.oth, 1, .nilFunc, 8⟩),
  (155, ⟨.oth, 1, .nilFunc, 8⟩),
  (156, ⟨.oth, 1, .nilFunc, 8⟩),
  (157, ⟨.oth, 1, .nilFunc, 8⟩),
  (158, ⟨.arr 4 148, 4, .agg #[.nilFunc, .nilFunc, .nilFunc, .nilFunc], 32⟩),
  (159, ⟨.arr 4 148, 4, .agg #[.nilFunc, .nilFunc, .nilFunc, .nilFunc], 32⟩),
  (160, ⟨.oth, 1, .nilFunc, 8⟩),
  (161, ⟨.oth, 1, .nilFunc, 8⟩),
  (162, ⟨.arr 4 4, 4, .agg #[.bool false, .bool false, .bool false, .bool false], 4⟩),
  (163, ⟨.oth, 1, .nilFunc, 8⟩),
  (169, ⟨.int .u32, 1, .int .u32 0, 4⟩),
  (172, ⟨.oth, 1, .nilFunc, 8⟩),
  (173, ⟨.oth, 1, .pointer none, 8⟩)]
theorem T_ok : TabOk Try.prog T := by
  refine ⟨?_, ?_, ?_, ?_, ?_, ?_, ?_, ?_, ?_, ?_, ?_, ?_, ?_, ?_, ?_, ?_, ?_, ?_, ?_, ?_, ?_, ?_, ?_, ?_, ?_, ?_, ?_, ?_, ?_, ?_, ?_, ?_, ?_, ?_, ?_, ?_, ?_, ?_, ?_, ?_, ?_, ?_, ?_, ?_, ?_, ?_, ?_, ?_, ?_, ?_, ?_, ?_, ?_, ?_, ?_, ?_, ?_, ?_, ?_, ?_, ?_, ?_, ?_, ?_, ?_, ?_, ?_, ?_, ?_, ?_, ?_, ?_, ?_, ?_, ?_, ?_, ?_, ?_, ?_, ?_, ?_, ?_, ?_, ?_, ?_, ?_, ?_, ?_, ?_, ?_, ?_, ?_, ?_, ?_, ?_, ?_, ?_, ?_, ?_, ?_, ?_, ?_, ?_, ?_, ?_, ?_, ?_, ?_, ?_, ?_, ?_, ?_, ?_, ?_, ?_, ?_, ?_, ?_, ?_, ?_, ?_, ?_, ?_, ?_, ?_, ?_, ?_, ?_, ?_, ?_, ?_, ?_, ?_, ?_, ?_, ?_, ?_, ?_, ?_, ?_, ?_, ?_, trivial⟩ <;> exact ⟨by kernel_rfl, by simp only [kdOk]; kernel_rfl⟩
theorem ty_3 : ty T 3 = some ⟨.int .i64, 1, .int .i64 0, 8⟩ := by kernel_rfl
theorem ty_4 : ty T 4 = some ⟨.bool, 1, .bool false, 1⟩ := by kernel_rfl
theorem ty_5 : ty T 5 = some ⟨.int .u8, 1, .int .u8 0, 1⟩ := by kernel_rfl
theorem ty_9 : ty T 9 = some ⟨.str, 1, .string ⟨#[]⟩, 16⟩ := by kernel_rfl
theorem ty_22 : ty T 22 = some ⟨.slice 52, 1, .slice none 0 0, 24⟩ := by kernel_rfl
theorem ty_23 : ty T 23 = some ⟨.slice 5, 1, .slice none 0 0, 24⟩ := by kernel_rfl
theorem ty_25 : ty T 25 = some ⟨.slice 55, 1, .slice none 0 0, 24⟩ := by kernel_rfl
theorem ty_26 : ty T 26 = some ⟨.slice 63, 1, .slice none 0 0, 24⟩ := by kernel_rfl
theorem ty_27 : ty T 27 = some ⟨.slice 93, 1, .slice none 0 0, 24⟩ := by kernel_rfl
theorem ty_29 : ty T 29 = some ⟨.struct [(0, 1), (1, 1)], 2, .agg #[.slice none 0 0, .slice none 0 0], 48⟩ := by kernel_rfl
theorem ty_31 : ty T 31 = some ⟨.struct [(0, 1), (1, 2)], 3, .agg #[.slice none 0 0, .slice none 0 0, .slice none 0 0], 72⟩ := by kernel_rfl
theorem ty_32 : ty T 32 = some ⟨.slice 46, 1, .slice none 0 0, 24⟩ := by kernel_rfl
theorem ty_40 : ty T 40 = some ⟨.struct [(0, 1), (1, 1), (2, 1)], 3, .agg #[.int .i64 0, .int .i64 0, .int .i64 0], 24⟩ := by kernel_rfl
theorem ty_42 : ty T 42 = some ⟨.arr 32 5, 32, .agg #[.int .u8 0, .int .u8 0, .int .u8 0, .int .u8 0, .int .u8 0, .int .u8 0, .int .u8 0, .int .u8 0, .int .u8 0, .int .u8 0, .int .u8 0, .int .u8 0, .int .u8 0, .int .u8 0, .int .u8 0, .int .u8 0, .int .u8 0, .int .u8 0, .int .u8 0, .int .u8 0, .int .u8 0, .int .u8 0, .int .u8 0, .int .u8 0, .int .u8 0, .int .u8 0, .int .u8 0, .int .u8 0, .int .u8 0, .int .u8 0, .int .u8 0, .int .u8 0], 32⟩ := by kernel_rfl
theorem ty_44 : ty T 44 = some ⟨.struct [(0, 1), (1, 1)], 2, .agg #[.int .i64 0, .int .i64 0], 16⟩ := by kernel_rfl
theorem ty_46 : ty T 46 = some ⟨.struct [(0, 3), (3, 1), (4, 1), (5, 1), (6, 1), (7, 32), (39, 1), (40, 2)], 42, .agg #[.int .i64 0, .int .i64 0, .int .i64 0, .int .i64 0, .int .i64 0, .int .i64 0, .int .i64 0, .int .u8 0, .int .u8 0, .int .u8 0, .int .u8 0, .int .u8 0, .int .u8 0, .int .u8 0, .int .u8 0, .int .u8 0, .int .u8 0, .int .u8 0, .int .u8 0, .int .u8 0, .int .u8 0, .int .u8 0, .int .u8 0, .int .u8 0, .int .u8 0, .int .u8 0, .int .u8 0, .int .u8 0, .int .u8 0, .int .u8 0, .int .u8 0, .int .u8 0, .int .u8 0, .int .u8 0, .int .u8 0, .int .u8 0, .int .u8 0, .int .u8 0, .int .u8 0, .int .i64 0, .int .i64 0, .int .i64 0], 112⟩ := by kernel_rfl
theorem ty_48 : ty T 48 = some ⟨.int .i64, 1, .int .i64 0, 8⟩ := by kernel_rfl
theorem ty_52 : ty T 52 = some ⟨.struct [(0, 1), (1, 1), (2, 1), (3, 1), (4, 42)], 46, .agg #[.int .i64 0, .int .i64 0, .int .i64 0, .int .i64 0, .int .i64 0, .int .i64 0, .int .i64 0, .int .i64 0, .int .i64 0, .int .i64 0, .int .i64 0, .int .u8 0, .int .u8 0, .int .u8 0, .int .u8 0, .int .u8 0, .int .u8 0, .int .u8 0, .int .u8 0, .int .u8 0, .int .u8 0, .int .u8 0, .int .u8 0, .int .u8 0, .int .u8 0, .int .u8 0, .int .u8 0, .int .u8 0, .int .u8 0, .int .u8 0, .int .u8 0, .int .u8 0, .int .u8 0, .int .u8 0, .int .u8 0, .int .u8 0, .int .u8 0, .int .u8 0, .int .u8 0, .int .u8 0, .int .u8 0, .int .u8 0, .int .u8 0, .int .i64 0, .int .i64 0, .int .i64 0], 144⟩ := by kernel_rfl
theorem ty_55 : ty T 55 = some ⟨.struct [(0, 1)], 1, .agg #[.slice none 0 0], 24⟩ := by kernel_rfl
theorem ty_63 : ty T 63 = some ⟨.struct [(0, 1), (1, 1), (2, 1)], 3, .agg #[.int .i64 0, .int .i64 0, .slice none 0 0], 40⟩ := by kernel_rfl
theorem ty_69 : ty T 69 = some ⟨.oth, 1, .nilFunc, 8⟩ := by kernel_rfl
theorem ty_72 : ty T 72 = some ⟨.oth, 1, .pointer none, 8⟩ := by kernel_rfl
theorem ty_73 : ty T 73 = some ⟨.map 3 69, 1, .map none, 8⟩ := by kernel_rfl
theorem ty_75 : ty T 75 = some ⟨.struct [(0, 3)], 3, .agg #[.slice none 0 0, .slice none 0 0, .slice none 0 0], 72⟩ := by kernel_rfl
theorem ty_82 : ty T 82 = some ⟨.slice 85, 1, .slice none 0 0, 24⟩ := by kernel_rfl
theorem ty_83 : ty T 83 = some ⟨.slice 3, 1, .slice none 0 0, 24⟩ := by kernel_rfl
theorem ty_85 : ty T 85 = some ⟨.struct [(0, 1), (1, 1), (2, 1), (3, 1)], 4, .agg #[.int .i64 0, .int .i64 0, .string ⟨#[]⟩, .slice none 0 0], 56⟩ := by kernel_rfl
theorem ty_93 : ty T 93 = some ⟨.arr 2 3, 2, .agg #[.int .i64 0, .int .i64 0], 16⟩ := by kernel_rfl
theorem ty_106 : ty T 106 = some ⟨.arr 2 3, 2, .agg #[.int .i64 0, .int .i64 0], 16⟩ := by kernel_rfl
theorem ty_111 : ty T 111 = some ⟨.oth, 1, .pointer none, 8⟩ := by kernel_rfl
theorem ty_112 : ty T 112 = some ⟨.arr 11 111, 11, .agg #[.pointer none, .pointer none, .pointer none, .pointer none, .pointer none, .pointer none, .pointer none, .pointer none, .pointer none, .pointer none, .pointer none], 88⟩ := by kernel_rfl
theorem ty_142 : ty T 142 = some ⟨.struct [(0, 3), (3, 1), (4, 1)], 5, .agg #[.int .i64 0, .int .i64 0, .int .i64 0, .int .i64 0, .int .i64 0], 40⟩ := by kernel_rfl
theorem ty_144 : ty T 144 = some ⟨.int .u64, 1, .int .u64 0, 8⟩ := by kernel_rfl
end Go.Proofs.Ythidfoohhhkobaa


namespace Go.Proofs.Ythidfoohhhkobaa
set_option linter.unusedSimpArgs false
set_option linter.unusedVariables false
open Go.RowKit
theorem keyOk_int_ : KeyOk Try.prog 3 .i := keyOk_int Try.underlying3
end Go.Proofs.Ythidfoohhhkobaa


namespace Go.Proofs.Ythidfoohhhkobaa
set_option linter.unusedSimpArgs false
set_option linter.unusedVariables false
open Go.RowKit
structure Hd where
  line : Int
  at_ : Int
  arr : Int
  leg : Int
  frm : Int
  to_ : Int
  many : Int
  root : Vector UInt8 32
  time : Int
  se : Int
  ss : Int
  deriving DecidableEq
instance : Inhabited Hd := ⟨⟨0, 0, 0, 0, 0, 0, 0, Vector.replicate 32 0, 0, 0, 0⟩⟩
abbrev cI (n : Int) : D := .c (.int .i64 n)
def rootD (r : List UInt8) : List D := r.map fun b => .c (.int .u8 b.toNat)
def tailD (h : Hd) : List D := [cI h.time, cI h.se, cI h.ss]
def handD (h : Hd) : List D := cI h.line :: cI h.at_ :: cI h.arr :: cI h.leg :: cI h.frm :: cI h.to_ :: cI h.many :: (rootD h.root.toList ++ tailD h)
theorem rootD_ln (r : List UInt8) : (rootD r).length = r.length := by simp [rootD]
theorem hd_ln (h : Hd) : (handD h).length = 42 := by simp [handD, tailD, rootD_ln]
theorem dV_len (l : List D) : (dV l).length = l.length := by simp [dV]
theorem hd_sz (h : Hd) : (dV (handD h)).length = 42 := by rw [dV_len, hd_ln]
theorem hd_take (h : Hd) : (dV (handD h)).take 42 = dV (handD h) := by rw [List.take_of_length_le]; rw [hd_sz]; exact Nat.le_refl _
theorem hd_takeD (h : Hd) : (handD h).take 42 = handD h := by rw [List.take_of_length_le]; rw [hd_ln]; exact Nat.le_refl _
theorem hd_t3 (h : Hd) : (dV (handD h)).take 3 = [vI h.line, vI h.at_, vI h.arr] := rfl
theorem hd_h0 (h : Hd) : (dV (handD h)).head? = some (vI h.line) := rfl
theorem hd_h1 (h : Hd) : ((dV (handD h)).drop 1).head? = some (vI h.at_) := rfl
theorem hd_h2 (h : Hd) : ((dV (handD h)).drop 2).head? = some (vI h.arr) := rfl
theorem hd_h3 (h : Hd) : ((dV (handD h)).drop 3).head? = some (vI h.leg) := rfl
theorem hd_h4 (h : Hd) : ((dV (handD h)).drop 4).head? = some (vI h.frm) := rfl
theorem hd_h5 (h : Hd) : ((dV (handD h)).drop 5).head? = some (vI h.to_) := rfl
theorem hd_h6 (h : Hd) : ((dV (handD h)).drop 6).head? = some (vI h.many) := rfl
theorem hd_d7 (h : Hd) : (handD h).drop 7 = rootD h.root.toList ++ tailD h := rfl
theorem hd_d39 (h : Hd) : (handD h).drop 39 = tailD h := by
  rw [show (39 : Nat) = 7 + 32 from rfl, ← List.drop_drop, hd_d7, List.drop_left' (by rw [rootD_ln, Vector.length_toList])]
theorem hd_d39V (h : Hd) : (dV (handD h)).drop 39 = dV (tailD h) := by rw [← hd_d39]; simp [dV]
theorem hd_h39 (h : Hd) : ((dV (handD h)).drop 39).head? = some (vI h.time) := by rw [hd_d39V]; rfl
theorem hd_h40 (h : Hd) : ((dV (handD h)).drop 40).head? = some (vI h.se) := by rw [show (40 : Nat) = 39 + 1 from rfl, ← List.drop_drop, hd_d39V]; rfl
theorem hd_h41 (h : Hd) : ((dV (handD h)).drop 41).head? = some (vI h.ss) := by rw [show (41 : Nat) = 39 + 2 from rfl, ← List.drop_drop, hd_d39V]; rfl
theorem dV_drop (k : Nat) (l : List D) : dV (l.drop k) = (dV l).drop k := by simp [dV]
theorem hd_p0 (h : Hd) : (dV ((handD h).drop 1)).head? = some (vI h.at_) := rfl
theorem hd_p1 (h : Hd) : (dV ((handD h).drop 2)).head? = some (vI h.arr) := rfl
theorem hd_p3 (h : Hd) : (dV ((handD h).drop 3)).head? = some (vI h.leg) := rfl
theorem hd_p4 (h : Hd) : (dV ((handD h).drop 4)).head? = some (vI h.frm) := rfl
theorem hd_p5 (h : Hd) : (dV ((handD h).drop 5)).head? = some (vI h.to_) := rfl
theorem hd_p6 (h : Hd) : (dV ((handD h).drop 6)).head? = some (vI h.many) := rfl
theorem hd_p39 (h : Hd) : (dV ((handD h).drop 39)).head? = some (vI h.time) := by rw [dV_drop, hd_h39]
theorem hd_p40 (h : Hd) : (dV ((handD h).drop 40)).head? = some (vI h.se) := by rw [dV_drop, hd_h40]
theorem hd_p41 (h : Hd) : (dV ((handD h).drop 41)).head? = some (vI h.ss) := by rw [dV_drop, hd_h41]
theorem hd_rt (h : Hd) : ((handD h).drop 7).take 32 = rootD h.root.toList := by rw [hd_d7, List.take_left' (by rw [rootD_ln, Vector.length_toList])]
theorem hd_rtV (h : Hd) : ((dV (handD h)).drop 7).take 32 = dV (rootD h.root.toList) := by rw [← hd_rt]; simp [dV]
def rootK (r : List UInt8) : List (IntKind × Int) := r.map fun b => (.u8, (b.toNat : Int))
def handK (h : Hd) : List (IntKind × Int) := (.i64, h.line) :: (.i64, h.at_) :: (.i64, h.arr) :: (.i64, h.leg) :: (.i64, h.frm) :: (.i64, h.to_) :: (.i64, h.many) :: (rootK h.root.toList ++ [(.i64, h.time), (.i64, h.se), (.i64, h.ss)])
def handKs : List IntKind := [.i64, .i64, .i64, .i64, .i64, .i64, .i64] ++ List.replicate 32 .u8 ++ [.i64, .i64, .i64]
theorem kc_app : ∀ (l : List (IntKind × Int)) (r : List V) (m : List (IntKind × Int)), kcells r = some m → kcells (l.map (fun p => .d (.c (.int p.1 p.2))) ++ r) = some (l ++ m)
  | [], r, m, h => h
  | p :: l, r, m, h => by simp only [List.map_cons, List.cons_append, kcells, kc_app l r m h, Option.map_some]
theorem dV_K (l : List (IntKind × Int)) : dV (l.map fun p => .c (.int p.1 p.2)) = l.map (fun p => V.d (.c (.int p.1 p.2))) := by simp [dV]
theorem handD_K (h : Hd) : handD h = (handK h).map fun p => .c (.int p.1 p.2) := by simp [handD, handK, rootD, rootK, tailD, List.map_map]
theorem hd_kc (h : Hd) : kcells (dV (handD h)) = some (handK h) := by
  rw [handD_K, dV_K]
  have := kc_app (handK h) [] [] rfl
  simpa using this
theorem ic_none : ∀ (l : List (IntKind × Int)), (∃ p ∈ l, p.1 ≠ .i64) → icells (l.map fun p => .d (.c (.int p.1 p.2))) = none
  | [], h => by obtain ⟨p, hp, _⟩ := h; cases hp
  | (k, n) :: l, h => by
    by_cases hk : k = .i64
    · subst hk
      have : ∃ p ∈ l, p.1 ≠ IntKind.i64 := by
        obtain ⟨p, hp, hn⟩ := h
        rcases List.mem_cons.1 hp with rfl | hp
        · exact absurd rfl hn
        · exact ⟨p, hp, hn⟩
      simp only [List.map_cons, icells, ic_none l this, Option.map_none]
    · simp only [List.map_cons]
      unfold icells
      split
      · rename_i heq; cases heq
      · rename_i heq; simp only [List.cons.injEq, V.d.injEq, D.c.injEq, Value.int.injEq] at heq; exact absurd heq.1.1 hk
      · rfl
theorem hd_ic (h : Hd) : icells (dV (handD h)) = none := by
  rw [handD_K, dV_K]
  refine ic_none _ ⟨(.u8, ((h.root[0]).toNat : Int)), ?_, by simp⟩
  unfold handK rootK
  have : h.root[0] ∈ h.root.toList := by simp
  simp only [List.mem_cons, List.mem_append]
  exact .inr (.inr (.inr (.inr (.inr (.inr (.inr (.inl (List.mem_map_of_mem (f := fun b : UInt8 => (IntKind.u8, (b.toNat : Int))) this))))))))
theorem hd_ks (h : Hd) : (handK h).map (·.1) = handKs := by
  have : ∀ l : List UInt8, (rootK l).map (·.1) = List.replicate l.length IntKind.u8 := fun l => by induction l with
    | nil => rfl
    | cons b l ih => rw [List.length_cons, List.replicate_succ, ← ih]; rfl
  unfold handK handKs
  simp [this]
theorem rootK_inj {a b : List UInt8} (h : rootK a = rootK b) : a = b := by
  unfold rootK at h
  exact (List.map_inj_right (fun x y e => by simp only [Prod.mk.injEq, true_and] at e; exact UInt8.toNat_inj.1 (by exact_mod_cast e))).1 h
theorem handK_inj {a b : Hd} (h : handK a = handK b) : a = b := by
  obtain ⟨a1, a2, a3, a4, a5, a6, a7, a8, a9, a10, a11⟩ := a
  obtain ⟨b1, b2, b3, b4, b5, b6, b7, b8, b9, b10, b11⟩ := b
  simp only [handK, List.cons.injEq, Prod.mk.injEq, true_and] at h
  obtain ⟨rfl, rfl, rfl, rfl, rfl, rfl, rfl, h⟩ := h
  have hl := List.append_inj h (by simp [rootK])
  have h8 : a8 = b8 := Vector.toList_inj.1 (rootK_inj hl.1)
  simp at hl
  obtain ⟨_, rfl, rfl, rfl⟩ := hl
  rw [h8]
theorem hd_beq (a b : Hd) : (handK a == handK b) = decide (a = b) := by
  rw [Bool.eq_iff_iff]
  simp only [beq_iff_eq, decide_eq_true_eq]
  exact ⟨handK_inj, fun e => by rw [e]⟩
theorem hd_s6 (h : Hd) (x : Int) : splice (dV (handD h)) 6 [vI x] = dV (handD { h with many := x }) := rfl
theorem hd_s40 (h : Hd) (x y : Int) : splice (dV (handD h)) 40 [vI x, vI y] = dV (handD { h with se := x, ss := y }) := by
  unfold splice
  have e1 : (dV (handD h)).take 40 = (dV (handD h)).take 39 ++ [vI h.time] := by
    rw [show (40 : Nat) = 39 + 1 from rfl, List.take_add, hd_d39V]; rfl
  have e2 : (dV (handD h)).take 39 = (dV (handD { h with se := x, ss := y })).take 39 := by
    simp only [handD, dV, List.map_cons, List.map_append]
    rw [show (39 : Nat) = 38 + 1 from rfl]
    simp only [List.take_succ_cons]
    congr 7
    rw [List.take_left' (by simp [rootD_ln]), List.take_left' (by simp [rootD_ln])]
  have e3 : (dV (handD h)).drop (40 + ([vI x, vI y] : List V).length) = [] := List.drop_eq_nil_of_le (by rw [hd_sz]; simp)
  rw [e1, e2, e3]
  have : dV (handD { h with se := x, ss := y }) = (dV (handD { h with se := x, ss := y })).take 39 ++ (dV (handD { h with se := x, ss := y })).drop 39 := (List.take_append_drop _ _).symm
  rw [hd_d39V] at this
  refine Eq.trans ?_ this.symm
  rw [List.append_nil, List.append_assoc]
  rfl
set_option linter.defProp false in
def handS := And.intro @hd_ln (And.intro @hd_sz (And.intro @hd_take (And.intro @hd_takeD (And.intro @hd_t3 (And.intro @hd_h0 (And.intro @hd_h1 (And.intro @hd_h2 (And.intro @hd_h3 (And.intro @hd_h4 (And.intro @hd_h5 (And.intro @hd_h6 (And.intro @hd_h39 (And.intro @hd_h40 (And.intro @hd_h41 (And.intro @hd_p0 (And.intro @hd_p1 (And.intro @hd_p3 (And.intro @hd_p4 (And.intro @hd_p5 (And.intro @hd_p6 (And.intro @hd_p39 (And.intro @hd_p40 (And.intro @hd_p41 (And.intro @hd_rt (And.intro @hd_rtV (And.intro @hd_kc (And.intro @hd_ic (And.intro @hd_ks @hd_beq))))))))))))))))))))))))))))
def byD (b : UInt8) : List D := [.c (.int .u8 b.toNat)]
abbrev bsD (l : List UInt8) : D := .sl 1 (byD 0) (l.map byD)
def strL (l : List UInt8) : ByteArray := ⟨l.toArray⟩
theorem bytesD_str (l : List UInt8) : bytesD (strL l) = l.map byD := rfl
theorem u8s_by : ∀ l : List UInt8, u8s (l.map byD) = some (l.map fun b => (b.toNat : Int))
  | [] => rfl
  | b :: l => by rw [List.map_cons, byD, u8s, u8s_by l]; rfl
theorem strOf_by (l : List UInt8) : strOfNums (l.map fun b => (b.toNat : Int)) = strL l := by
  unfold strOfNums strL
  congr 2
  rw [List.map_map]
  refine (List.map_congr_left fun b _ => ?_).trans (List.map_id _)
  simp
theorem rootD_by (l : List UInt8) : (rootD l).map (fun d => [d]) = l.map byD := by simp [rootD, byD]
theorem str_sz (l : List UInt8) : (strL l).data.toList = l := rfl
theorem str_tl (l : List UInt8) : (strL l).toList = l := by rw [ByteArray.toList_eq]; rfl
theorem ta_n : toAs [] = some [] := rfl
theorem ta_a {xs : List D} {vs : List V} {l : List A} (h : toAs vs = some l) : toAs (.agg (dV xs) :: vs) = some (.agg xs :: l) := by simp [toAs, toA_dV, h]
theorem ta_d {x : D} {vs : List V} {l : List A} (h : toAs vs = some l) : toAs (.d x :: vs) = some (.one x :: l) := by simp [toAs, toA, toD, h]
theorem ta_o {n sz : Nat} {d0 : List D} {es : List (List D)} {vs : List V} {l : List A} (h : toAs vs = some l) : toAs (.ow n sz d0 es :: vs) = some (.one (.sl sz d0 es) :: l) := by simp [toAs, toA, toD, h]
end Go.Proofs.Ythidfoohhhkobaa


namespace Go.Proofs.Ythidfoohhhkobaa
set_option linter.unusedSimpArgs false
set_option linter.unusedVariables false
open Go.RowKit
set_option maxRecDepth 100000
set_option maxHeartbeats 4000000
theorem eqT_i64 : EqT Try.prog 3 [.i64] 1 := .inl ⟨_, Try.underlying3, rfl, Nat.le_refl _⟩
theorem eqT_Run : EqT Try.prog 40 [.i64, .i64, .i64] 2 := eqT_struct (kss := [[.i64], [.i64], [.i64]]) (by kernel_rfl) (by kernel_rfl) (by kernel_rfl) rfl (fieldsK_of (tab := [(3, [.i64])]) (by simp only [List.mem_singleton, forall_eq]; exact eqT_i64) _ _ _ (by decide +kernel))
theorem eqT_Sig : EqT Try.prog 44 [.i64, .i64] 2 := eqT_struct (kss := [[.i64], [.i64]]) (by kernel_rfl) (by kernel_rfl) (by kernel_rfl) rfl (fieldsK_of (tab := [(3, [.i64])]) (by simp only [List.mem_singleton, forall_eq]; exact eqT_i64) _ _ _ (by decide +kernel))
theorem eqT_Dig : EqT Try.prog 42 (List.replicate 32 .u8) 2 := by
  cases hi : Try.prog.info? 5 with
  | none => exact absurd hi (by decide +kernel)
  | some i => exact eqT_arr (e := 5) (by kernel_rfl) Try.underlying5 hi (by kernel_rfl) (by kernel_rfl)
theorem eqT_Slot : EqT Try.prog 142 [.i64, .i64, .i64, .i64, .i64] 3 := eqT_struct (kss := [[.i64, .i64, .i64], [.i64], [.i64]]) (by kernel_rfl) (by kernel_rfl) (by kernel_rfl) rfl (fieldsK_of (tab := [(3, [.i64]), (40, [.i64, .i64, .i64])]) (by
  intro p hp
  simp only [List.mem_cons, List.not_mem_nil, or_false] at hp
  rcases hp with rfl | rfl
  · exact eqT_i64.up (by omega)
  · exact eqT_Run) _ _ _ (by decide +kernel))
theorem eqT_Hand : EqT Try.prog 46 handKs 3 := eqT_struct (kss := [[.i64, .i64, .i64], [.i64], [.i64], [.i64], [.i64], List.replicate 32 .u8, [.i64], [.i64, .i64]]) (by kernel_rfl) (by kernel_rfl) (by kernel_rfl) rfl (fieldsK_of (tab := [(3, [.i64]), (40, [.i64, .i64, .i64]), (44, [.i64, .i64]), (42, List.replicate 32 .u8)]) (by
  intro p hp
  simp only [List.mem_cons, List.not_mem_nil, or_false] at hp
  rcases hp with rfl | rfl | rfl | rfl
  · exact eqT_i64.up (by omega)
  · exact eqT_Run
  · exact eqT_Sig
  · exact eqT_Dig) _ _ _ (by decide +kernel))
theorem isAgg_of {t : TypeId} {fs : Array Field} (h : Try.prog.underlying t = some (.struct fs)) (w : World) : (isAgg t).run Try.prog w = .ok true w := by unfold Go.isAgg; rw [Sem.run_bind, run_underlying h w]; rfl
theorem eqSlot : EqInts Try.prog 142 5 := eqI_of (eqK_of eqT_Slot (by omega) (isAgg_of Try.underlying142) (by kernel_rfl))
theorem eqHand : EqKInts Try.prog 46 handKs := eqK_of eqT_Hand (by omega) (isAgg_of Try.underlying46) (by kernel_rfl)
def btw (n lo hi : Int) : Bool := decide (n ≥ lo) && decide (n ≤ hi)
theorem hbetween_spec (n lo hi : Int) : Spec Try.prog 93 [aI n, aI lo, aI hi] (.r1 (aB (btw n lo hi))) := by
  refine spec_of T_ok Try.func93 (by dsimp only [Try.f93]) rfl rfl (by simp) fun w F => ?_
  repeat' (first | (with_reducible refine aw_seq ?_) | ((with_reducible refine And.intro ?_ ?_); (focus (rfl | ))) | ((first | ((with_reducible refine aw_regionA T_ok ?_ ?_); kernel_rfl) | (with_reducible refine aw_ret ?_) ); simp only [↓avP, avQ, avR, forall_const, implies_true, Nat.reduceEqDiff, Nat.reduceAdd, Nat.reduceLeDiff, reduceCtorEq, avS, handS, ty_3, ty_46, ty_40, ty_142]; try simp (disch := omega) only [av_w, av_t1, av_tp, Int.toNat_natCast]))
  exact Sub.refl _
def formB (h : Hd) : Bool := (btw h.at_ 0 2097151 && btw h.arr 0 2097151 && btw h.time 0 2097151) && (btw h.frm 0 23 && btw h.to_ (-1) 23 && h.frm != h.to_) && btw h.line 0 63 && btw h.leg 0 8 && btw h.many 0 64
theorem hformed_spec (h : Hd) : Spec Try.prog 80 [.agg (handD h)] (.r1 (aB (formB h))) := by
  refine spec_of T_ok Try.func80 (by dsimp only [Try.f80]) rfl rfl (by simp) fun w F => ?_
  repeat' (first | (with_reducible refine aw_seq ?_) | ((first | ((with_reducible refine aw_regionA T_ok ?_ ?_); kernel_rfl) | ((with_reducible refine callK_intro (hbetween_spec _ _ _) (by repeat' (first | exact ta_n | refine ta_d ?_ | )) ?_ ?_); kernel_rfl) | ((with_reducible refine callI_spec (hbetween_spec _ _ _) (by repeat' (first | exact ta_n | refine ta_d ?_ | )) ?_ ?_ ?_); kernel_rfl; kernel_rfl) | (with_reducible refine aw_ret ?_) ); simp only [↓avP, avQ, avR, forall_const, implies_true, Nat.reduceEqDiff, Nat.reduceAdd, reduceCtorEq, avS, handS, ty_3, ty_46, ty_40]; try simp (disch := omega) only [av_w, av_t1, av_tp, Int.toNat_natCast]))
  all_goals exact Sub.of_eq (by simp [formB])
theorem hslot_spec (h : Hd) : Spec Try.prog 81 [.agg (handD h)] (.r1 (.agg [cI h.line, cI h.at_, cI h.arr, cI h.leg, cI h.frm])) := by
  refine spec_of T_ok Try.func81 (by dsimp only [Try.f81]) rfl rfl (by simp) fun w F => ?_
  repeat' (first | (with_reducible refine aw_seq ?_) | ((with_reducible refine And.intro ?_ ?_); (focus (rfl | ))) | ((first | ((with_reducible refine aw_regionA T_ok ?_ ?_); kernel_rfl) | (with_reducible refine aw_ret ?_) ); simp only [↓avP, avQ, avR, forall_const, implies_true, Nat.reduceEqDiff, Nat.reduceAdd, Nat.reduceLeDiff, reduceCtorEq, avS, handS, ty_3, ty_46, ty_40, ty_142]; try simp (disch := omega) only [av_w, av_t1, av_tp, Int.toNat_natCast]))
  all_goals exact Sub.refl _
def clashB (a b : Hd) : Bool := formB a && formB b && ([a.line, a.at_, a.arr, a.leg, a.frm] == [b.line, b.at_, b.arr, b.leg, b.frm]) && !(decide ({ a with se := 0, ss := 0 } = { b with se := 0, ss := 0 }))
theorem hClash_spec (a b : Hd) : Spec Try.prog 60 [.agg (handD a), .agg (handD b)] (.r1 (aB (clashB a b))) := by
  refine spec_of T_ok Try.func60 (by dsimp only [Try.f60]) rfl rfl (by simp) fun w F => ?_
  cases ha : formB a with
  | false =>
    repeat' (first | (with_reducible refine aw_seq ?_) | ((with_reducible refine two_intro ?_ ?_) <;> intro h <;> first | contradiction | (((guard_hyp h : true = true; clear h) | ))) | ((with_reducible refine And.intro ?_ ?_); (focus (exact eqSlot | ))) | ((first | ((with_reducible refine aw_regionA T_ok ?_ ?_); kernel_rfl) | ((with_reducible refine aw_drawnA T_ok ?_ ?_ ?_ ?_); kernel_rfl; kernel_rfl; (focus (decide +kernel))) | ((with_reducible refine callK_intro (hformed_spec _) (by repeat' (first | exact ta_n | refine ta_a ?_ | )) ?_ ?_); kernel_rfl) | ((with_reducible refine callK_intro (hslot_spec _) (by repeat' (first | exact ta_n | refine ta_a ?_ | )) ?_ ?_); kernel_rfl) | ((with_reducible refine aw_condM ?_ ?_); kernel_rfl) | (with_reducible refine aw_ret ?_) ); simp only [↓avP, avQ, avR, forall_const, implies_true, Nat.reduceEqDiff, Nat.reduceAdd, Nat.reduceLeDiff, reduceCtorEq, avS, handS, ty_46, ha]; try simp (disch := omega) only [av_w, av_t1, av_tp, Int.toNat_natCast]))
    all_goals exact Sub.of_eq (by simp [clashB, ha])
  | true =>
  cases hb : formB b with
  | false =>
    repeat' (first | (with_reducible refine aw_seq ?_) | ((with_reducible refine two_intro ?_ ?_) <;> intro h <;> first | contradiction | (((guard_hyp h : true = true; clear h) | ))) | ((with_reducible refine And.intro ?_ ?_); (focus (exact eqSlot | ))) | ((first | ((with_reducible refine aw_regionA T_ok ?_ ?_); kernel_rfl) | ((with_reducible refine aw_drawnA T_ok ?_ ?_ ?_ ?_); kernel_rfl; kernel_rfl; (focus (decide +kernel))) | ((with_reducible refine callK_intro (hformed_spec _) (by repeat' (first | exact ta_n | refine ta_a ?_ | )) ?_ ?_); kernel_rfl) | ((with_reducible refine callK_intro (hslot_spec _) (by repeat' (first | exact ta_n | refine ta_a ?_ | )) ?_ ?_); kernel_rfl) | ((with_reducible refine aw_condM ?_ ?_); kernel_rfl) | (with_reducible refine aw_ret ?_) ); simp only [↓avP, avQ, avR, forall_const, implies_true, Nat.reduceEqDiff, Nat.reduceAdd, Nat.reduceLeDiff, reduceCtorEq, avS, handS, ty_46, ha, hb]; try simp (disch := omega) only [av_w, av_t1, av_tp, Int.toNat_natCast]))
    all_goals exact Sub.of_eq (by simp [clashB, ha, hb])
  | true =>
  cases hs : ([a.line, a.at_, a.arr, a.leg, a.frm] == [b.line, b.at_, b.arr, b.leg, b.frm]) with
  | false =>
    repeat' (first | (with_reducible refine aw_seq ?_) | ((with_reducible refine two_intro ?_ ?_) <;> intro h <;> first | contradiction | ((first | (guard_hyp h : true = true; clear h) | (guard_hyp h : false = false; clear h)))) | ((with_reducible refine And.intro ?_ ?_); (focus (first | exact eqSlot | exact eqHand | rfl | ))) | ((first | ((with_reducible refine aw_regionA T_ok ?_ ?_); kernel_rfl) | ((with_reducible refine aw_drawnA T_ok ?_ ?_ ?_ ?_); kernel_rfl; kernel_rfl; (focus (decide +kernel))) | ((with_reducible refine callK_intro (hformed_spec _) (by repeat' (first | exact ta_n | refine ta_a ?_ | )) ?_ ?_); kernel_rfl) | ((with_reducible refine callK_intro (hslot_spec _) (by repeat' (first | exact ta_n | refine ta_a ?_ | )) ?_ ?_); kernel_rfl) | (with_reducible refine aw_skip ?_) | ((with_reducible refine aw_condM ?_ ?_); kernel_rfl) | (with_reducible refine aw_ret ?_) ); simp only [↓avP, avQ, avR, forall_const, implies_true, Nat.reduceEqDiff, Nat.reduceAdd, Nat.reduceLeDiff, reduceCtorEq, avS, handS, ↓hd_s40, ty_46, ty_44, ha, hb, hs]; try simp (disch := omega) only [av_w, av_t1, av_tp, Int.toNat_natCast]))
    all_goals exact Sub.of_eq (by simp only [clashB, ha, hb, hs, Bool.and_false, Bool.false_and])
  | true =>
    repeat' (first | (with_reducible refine aw_seq ?_) | ((with_reducible refine two_intro ?_ ?_) <;> intro h <;> first | contradiction | ((first | (guard_hyp h : true = true; clear h) | (guard_hyp h : false = false; clear h)))) | ((with_reducible refine And.intro ?_ ?_); (focus (first | exact eqSlot | exact eqHand | rfl | ))) | ((first | ((with_reducible refine aw_regionA T_ok ?_ ?_); kernel_rfl) | ((with_reducible refine aw_drawnA T_ok ?_ ?_ ?_ ?_); kernel_rfl; kernel_rfl; (focus (decide +kernel))) | ((with_reducible refine callK_intro (hformed_spec _) (by repeat' (first | exact ta_n | refine ta_a ?_ | )) ?_ ?_); kernel_rfl) | ((with_reducible refine callK_intro (hslot_spec _) (by repeat' (first | exact ta_n | refine ta_a ?_ | )) ?_ ?_); kernel_rfl) | (with_reducible refine aw_skip ?_) | ((with_reducible refine aw_condM ?_ ?_); kernel_rfl) | (with_reducible refine aw_ret ?_) ); simp only [↓avP, avQ, avR, forall_const, implies_true, Nat.reduceEqDiff, Nat.reduceAdd, Nat.reduceLeDiff, reduceCtorEq, avS, handS, ↓hd_s40, ty_46, ty_44, ha, hb, hs]; try simp (disch := omega) only [av_w, av_t1, av_tp, Int.toNat_natCast]))
    all_goals exact Sub.of_eq (by simp only [clashB, ha, hb, hs, Bool.true_and])
theorem clash_self (h : Hd) (m : Int) (hm : formB h = true → btw m 0 64 = true ∧ h.many ≠ m) : clashB h { h with many := m } = formB h := by
  unfold clashB
  cases hf : formB h with
  | false => simp
  | true =>
    obtain ⟨h1, hne⟩ := hm hf
    have h2 : formB { h with many := m } = true := by
      unfold formB at hf ⊢
      simp only [Bool.and_eq_true] at hf
      simp [hf, h1]
    have h3 : decide ({ h with se := 0, ss := 0 } = { h with many := m, se := 0, ss := 0 }) = false := decide_eq_false fun e => hne (congrArg Hd.many e)
    simp only [h2, h3, Bool.true_and, beq_self_eq_true, Bool.not_false]
theorem form_many {h : Hd} (hf : formB h = true) : 0 ≤ h.many ∧ h.many ≤ 64 := by
  unfold formB btw at hf
  simp only [Bool.and_eq_true, decide_eq_true_eq] at hf
  omega
theorem gformed_spec (h : Hd) (hm : -9223372036854775808 ≤ h.many ∧ h.many ≤ 9223372036854775807) : Spec Try.prog 41 [.agg (handD h)] (.r1 (aB (formB h))) := by
  refine spec_of T_ok Try.func41 (by dsimp only [Try.f41]) rfl rfl (by simp) fun w F => ?_
  cases hc : (h.many == 64) with
  | true =>
    repeat' (first | (with_reducible refine aw_seq ?_) | ((with_reducible refine two_intro ?_ ?_) <;> intro h <;> first | contradiction | ((first | (guard_hyp h : true = true; clear h) | (guard_hyp h : false = false; clear h)))) | ((with_reducible refine And.intro ?_ ?_); (focus (rfl | ))) | ((first | ((with_reducible refine aw_regionA T_ok ?_ ?_); kernel_rfl) | ((with_reducible refine callI_spec (hClash_spec _ _) (by repeat' (first | exact ta_n | refine ta_a ?_ | )) ?_ ?_ ?_); kernel_rfl; kernel_rfl) | (with_reducible refine aw_skip ?_) | ((with_reducible refine aw_condM ?_ ?_); kernel_rfl) | (with_reducible refine aw_ret ?_) ); simp only [↓avP, avQ, avR, forall_const, implies_true, Nat.reduceEqDiff, Nat.reduceAdd, Nat.reduceLeDiff, reduceCtorEq, avS, handS, ↓hd_s6, ty_3, ty_46, hc]; try simp (disch := omega) only [av_w, av_t1, av_tp, Int.toNat_natCast]))
    have hc := beq_iff_eq.1 hc
    all_goals exact Sub.of_eq (congrArg aB (clash_self h 0 fun _ => ⟨rfl, by omega⟩))
  | false =>
    repeat' (first | (with_reducible refine aw_seq ?_) | ((with_reducible refine two_intro ?_ ?_) <;> intro h <;> first | contradiction | ((first | (guard_hyp h : true = true; clear h) | (guard_hyp h : false = false; clear h)))) | ((with_reducible refine And.intro ?_ ?_); (focus (rfl | ))) | ((first | ((with_reducible refine aw_regionA T_ok ?_ ?_); kernel_rfl) | ((with_reducible refine callI_spec (hClash_spec _ _) (by repeat' (first | exact ta_n | refine ta_a ?_ | )) ?_ ?_ ?_); kernel_rfl; kernel_rfl) | (with_reducible refine aw_skip ?_) | ((with_reducible refine aw_condM ?_ ?_); kernel_rfl) | (with_reducible refine aw_ret ?_) ); simp only [↓avP, avQ, avR, forall_const, implies_true, Nat.reduceEqDiff, Nat.reduceAdd, Nat.reduceLeDiff, reduceCtorEq, avS, handS, ↓hd_s6, ty_3, ty_46, hc]; try simp (disch := omega) only [av_w, av_t1, av_tp, Int.toNat_natCast]))
    have hc := beq_eq_false_iff_ne.1 hc
    all_goals exact Sub.of_eq (congrArg aB (clash_self h _ fun hf => by
      have := form_many hf
      rw [av_w (by omega)]
      exact ⟨by unfold btw; simp; omega, by omega⟩))
end Go.Proofs.Ythidfoohhhkobaa

