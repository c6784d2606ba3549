import Derived.Test.YtlnkmaejiceloaaHL15
import Derived.Test.YtlnkmaejiceloaaHL16
import Derived.Test.YtlnkmaejiceloaaHL17
namespace Go.Proofs.Ytlnkmaejiceloaa
set_option linter.unusedSimpArgs false
set_option linter.unusedVariables false
open Go.RowKit
set_option maxRecDepth 100000
set_option maxHeartbeats 4000000
def rfOf : Code → Option (Array Tmp × Code × Code)
  | .rangeFunc _ ps x y => some (ps, x, y)
  | .seq x y => match rfOf x with
    | some z => some z
    | none => rfOf y
  | .block _ x => rfOf x
  | .loop x => rfOf x
  | .cond _ x y => match rfOf x with
    | some z => some z
    | none => rfOf y
  | _ => none
theorem lkT_app_lo {t : Nat} : ∀ {l r : List (Nat × V)}, (∀ p ∈ r, p.1 ≠ t) → lkT (l ++ r) t = lkT l t
  | [], r, h => by
    have := lkT_off t r [] (fun p hp e => h p hp e.symm)
    rw [List.append_nil] at this
    rw [List.nil_append, this]
  | (u, v) :: l, r, h => by
    rw [List.cons_append, lkT, lkT, lkT_app_lo h]
theorem lkT_app_hit {t : Nat} {v : V} (hv : v ≠ .any) : ∀ {l r : List (Nat × V)}, lkT l t = v → lkT (l ++ r) t = v
  | [], r, h => (hv h.symm).elim
  | (u, x) :: l, r, h => by
    rw [lkT] at h
    rw [List.cons_append, lkT]
    split at h
    · rename_i e; rw [if_pos e]; exact h
    · rename_i e; rw [if_neg e]; exact lkT_app_hit hv h
theorem FzL_intW {st : Nat → Option Blk} : ∀ m : AM Int, FzL Try.prog st ((mpV intW m).map (·.2)) (m.map fun p => .c (.int .i64 p.2))
  | [] => FzL.nil
  | p :: m => FzL.cons (.d rfl) (FzL_intW m)
theorem keys_intW : ∀ m : AM Int, (mpV intW m).map (·.1) = m.map (·.1)
  | [] => rfl
  | p :: m => congrArg (p.1 :: ·) (keys_intW m)
theorem lkB_ne {k n : Nat} {x : Blk} {l : List (Nat × Blk)} (h : n ≠ k) : lkB ((k, x) :: l) n = lkB l n := if_neg h
theorem keysL_lt {N : Nat} : ∀ {e : List (Nat × V)}, keysL N e = true → ∀ p ∈ e, p.1 < N
  | [], _, p, hp => by cases hp
  | (k, v) :: e, h, p, hp => by
    simp only [keysL, Bool.and_eq_true, decide_eq_true_eq] at h
    rcases List.mem_cons.1 hp with rfl | hp
    · exact h.1
    · exact keysL_lt h.2 p hp
theorem pick_less {N lo k : Nat} {tm e : List (Nat × V)} {v : V} (he : ∀ t, t < N → lkT e t = lkT tm (lo + t) ∨ lkT e t = .any) (hk : k < N) (hN : keysL N e = true) : lessT ((k, v) :: (e ++ shT N tm)) (setP [k] [v] (pickT lo N tm) ++ shT N tm) := fun t => by
  have hr : ∀ t, t < N → ∀ p ∈ shT N tm, p.1 ≠ t := fun t ht p hp e => by have := keys_shT N tm p hp; omega
  have hs : ∀ p ∈ setP [k] [v] (pickT lo N tm), p.1 < N := setP_lt [k] [v] _ (by simpa using hk) (pickT_lt lo N tm)
  show lkT ((k, v) :: (e ++ shT N tm)) t = lkT (setT k v (pickT lo N tm) ++ shT N tm) t ∨ _
  rw [lkT]
  by_cases htk : t = k
  · left
    rw [if_pos htk, lkT_app_lo (hr t (by omega)), lkT_setT, if_pos htk]
  · rw [if_neg htk]
    rcases Nat.lt_or_ge t N with ht | ht
    · rw [lkT_app_lo (hr t ht), lkT_app_lo (hr t ht), lkT_setT, if_neg htk, lkT_pickT lo N t ht, Nat.add_comm t lo]
      exact he t ht
    · left
      rw [lkT_off t e _ (fun p hp e' => by have := keysL_lt hN p hp; omega), lkT_off t _ _ (fun p hp e' => by have := hs p hp; omega)]
structure LInv (f : FlowP) (lines : List (List Int)) (s need : Int) (off : Nat) (Lc : LoopC) (G : List (List Int)) (st : List (Nat × Blk)) (q : Nat) (M : AM Int) (z : Nat) : Prop where
  ok : CrowdOk f lines s M
  q12 : 12 ≤ q
  zz : z < q ∧ z ≠ 1 ∧ z ≠ 2 ∧ z ≠ 5 ∧ z ≠ 6 ∧ z ≠ 7 ∧ z ≠ 8 ∧ z ≠ 10 ∧ z ≠ 11
  b1 : lkB st 1 = some (.cells 3 [vI need])
  b2 : lkB st 2 = some (.cells 25 [.ow z 1 (issD []) (G.map issD)])
  b5 : lkB st 5 = some (crowdM M)
  b6 : lkB st 6 = some (.cells 56 (viewV f lines s 5))
  b7 : lkB st 7 = some (.cells 3 [vI off])
  b8 : lkB st 8 = some (.loop Lc .ready none)
  b10 : lkB st 10 = some (.cells 44 [.yl 8])
  b11 : lkB st 11 = some (.cells 72 [.fn 53 [.ptr 10 0, .ptr 7 0, .ptr 11 0]])
  bz : lkB st z = some (.tok 26 1 G.length)
  el : ∀ y ∈ G, isCo off y
theorem LInv.mono {f : FlowP} {lines : List (List Int)} {s need : Int} {off : Nat} {Lc : LoopC} {G : List (List Int)} {st st' : List (Nat × Blk)} {q q' : Nat} {M : AM Int} {z : Nat} (h : LInv f lines s need off Lc G st q M z) (hs : ∀ k x, isRow x = false → lkB st k = some x → lkB st' k = some x) (hq : q ≤ q') : LInv f lines s need off Lc G st' q' M z :=
  ⟨h.ok, Nat.le_trans h.q12 hq, ⟨Nat.lt_of_lt_of_le h.zz.1 hq, h.zz.2⟩, hs _ _ rfl h.b1, hs _ _ rfl h.b2, hs _ _ rfl h.b5, hs _ _ rfl h.b6, hs _ _ rfl h.b7, hs _ _ rfl h.b8, hs _ _ rfl h.b10, hs _ _ rfl h.b11, hs _ _ rfl h.bz, h.el⟩
def tmLs : List (Nat × V) := [(9, .ptr 1 0), (10, .ptr 2 0), (12, .ptr 6 0)]
def leastX (f : FlowP) (lines : List (List Int)) (s need : Int) (off : Nat) (Lc : LoopC) : Chs (List (List Int)) where
  Inv := fun G st q => ∃ M z, LInv f lines s need off Lc G st q M z
  Cx := fun B tm => ∃ o, B.r = none ∧ (∀ t, t < 49 → Lc.tms.getD t undef = B.g (o + t)) ∧ ∀ t, t < 49 → lkT tmLs t = lkT tm (B.N + o + t) ∨ lkT tmLs t = .any
  step := stepL (fun x => brkB f lines x s need)
  ym := 8
  yb := 10
  ob := 7
  cv := 11
  off := off
theorem leastX_cx {f : FlowP} {lines : List (List Int)} {s need : Int} {off : Nat} {Lc : LoopC} {B : Base} {tm tm' : List (Nat × V)} {a : Act} (h : (leastX f lines s need off Lc).Cx B tm) (ht : tailT 43 tm tm') : (leastX f lines s need off Lc).Cx (B.inn 43 (vOf B a) (gdOf B a)) tm' := by
  obtain ⟨o, h1, h2, h3⟩ := h
  refine ⟨B.N + o, rfl, fun t h => ?_, fun t h => ?_⟩
  · rw [h2 t h]
    show B.g (o + t) = vOf B a (B.N + o + t)
    unfold vOf
    rw [if_neg (by omega), show B.N + o + t - B.N = o + t by omega]
  · have := ht (43 + (B.N + o) + t) (by omega)
    show lkT tmLs t = lkT tm' (43 + (B.N + o) + t) ∨ _
    rw [this, lkT_shT, if_pos (by omega), show 43 + (B.N + o) + t - 43 = B.N + o + t by omega]
    exact h3 t h
theorem yieldI_fresh {P : Program} {B : Base} {n : Nat} {vs : List V} {d : Option Tmp} {K : St → Prop} {s : St} (hr : B.r = none) (h : (∀ n, s.nx ≤ n → lkB s.st n = none) → yieldI P B n vs d s K ⟨⟩) : yieldI P B n vs d s K ⟨⟩ :=
  ⟨hr, fun E a l us hG hη hv => (h fun _ hn => hG.1.none_of_fresh hn).2 E a l us hG hη hv⟩
def agreeB (q : Nat) (X : Nat → Prop) (l st : List (Nat × Blk)) : Prop := ∀ k, k < q → ¬ X k → lkB l k = lkB st k
theorem agree_refl (q : Nat) (X : Nat → Prop) (l : List (Nat × Blk)) : agreeB q X l l := fun _ _ _ => rfl
theorem agree_same {q n : Nat} {X : Nat → Prop} {l st : List (Nat × Blk)} {x : Blk} (h : lkB st n = some x) (h1 : agreeB q X l st) : agreeB q X ((n, x) :: l) st := fun k hk hX => by
  rw [lkB]
  by_cases e : k = n
  · rw [if_pos e, e, h]
  · rw [if_neg e]; exact h1 k hk hX
theorem agree_new {q n : Nat} {X : Nat → Prop} {l st : List (Nat × Blk)} {x : Blk} (h : q ≤ n) (h1 : agreeB q X l st) : agreeB q X ((n, x) :: l) st := fun k hk hX => by
  rw [lkB, if_neg (by omega)]; exact h1 k hk hX
theorem agree_ex {q n : Nat} {X : Nat → Prop} {l st : List (Nat × Blk)} {x : Blk} (h : X n) (h1 : agreeB q X l st) : agreeB q X ((n, x) :: l) st := fun k hk hX => by
  rw [lkB, if_neg (fun e => hX (by rw [e]; exact h))]; exact h1 k hk hX
theorem agree_del {q n : Nat} {X : Nat → Prop} {l st : List (Nat × Blk)} (h : X n) (h1 : agreeB q X l st) : agreeB q X (delB n l) st := fun k hk hX => by
  rw [lkB_delB, if_neg (fun e => hX (by rw [e]; exact h))]; exact h1 k hk hX
theorem yield_fin {f : FlowP} {lines : List (List Int)} {s need : Int} {off : Nat} {Lc : LoopC} {G G' : List (List Int)} {st st' : List (Nat × Blk)} {q q' : Nat} {M M' : AM Int} {z z' m : Nat} {c : List Int} (hI : LInv f lines s need off Lc G st q M z) (hfr : ∀ n, q ≤ n → lkB st n = none) (hm : lkB st m = some (rowI c))
    (hA : agreeB q (fun k => k = m ∨ k = z ∨ k = 2 ∨ k = 5) st' st) (h2 : lkB st' 2 = some (.cells 25 [.ow z' 1 (issD []) (G'.map issD)])) (h5 : lkB st' 5 = some (crowdM M')) (hz' : lkB st' z' = some (.tok 26 1 G'.length)) (hz : z' = z ∨ q ≤ z') (hzq : z' < q') (hM : CrowdOk f lines s M') (hq : q ≤ q') (hel : ∀ y ∈ G', isCo off y) :
    (∃ M z, LInv f lines s need off Lc G' st' q' M z) ∧ (∀ n c, n ≠ m → lkB st n = some (rowI c) → lkB st' n = some (rowI c)) ∧ (∀ k, k < q → lkB st k = none → lkB st' k = none) := by
  obtain ⟨z0, z1, z2, z5, z6, z7, z8, z10, z11⟩ := hI.zz
  have hq12 := hI.q12
  have hne : ∀ k x, lkB st k = some x → isRow x = false → k ≠ m := fun k x hk hx e => by
    rw [e, hm] at hk; cases hk; simp [rowI, isRow] at hx
  have key : ∀ k x, k < q → lkB st k = some x → isRow x = false → k ≠ z → k ≠ 2 → k ≠ 5 → lkB st' k = some x := fun k x hk hx hr h1 h2 h3 => by
    have h4 := hne k x hx hr
    rw [hA k hk (by rintro (e | e | e | e) <;> contradiction)]; exact hx
  refine ⟨⟨M', z', hM, by omega, ?_, key 1 _ (by omega) hI.b1 rfl (Ne.symm z1) (by decide) (by decide), h2, h5, key 6 _ (by omega) hI.b6 rfl (Ne.symm z6) (by decide) (by decide), key 7 _ (by omega) hI.b7 rfl (Ne.symm z7) (by decide) (by decide), key 8 _ (by omega) hI.b8 rfl (Ne.symm z8) (by decide) (by decide), key 10 _ (by omega) hI.b10 rfl (Ne.symm z10) (by decide) (by decide), key 11 _ (by omega) hI.b11 rfl (Ne.symm z11) (by decide) (by decide), hz', hel⟩, fun n c' hn hr => ?_, fun k hk hno => ?_⟩
  · rcases hz with rfl | hz
    · exact ⟨hzq, z1, z2, z5, z6, z7, z8, z10, z11⟩
    · exact ⟨hzq, by omega, by omega, by omega, by omega, by omega, by omega, by omega, by omega⟩
  · have hlt : n < q := Nat.lt_of_not_le fun h => by rw [hfr n h] at hr; cases hr
    rw [hA n hlt]
    · exact hr
    · rintro (e | e | e | e)
      · exact hn e
      · rw [e, hI.bz] at hr; cases hr
      · rw [e, hI.b2] at hr; cases hr
      · rw [e, hI.b5] at hr; cases hr
  · rw [hA k hk]
    · exact hno
    · rintro (e | e | e | e)
      · rw [e, hm] at hno; cases hno
      · rw [e, hI.bz] at hno; cases hno
      · rw [e, hI.b2] at hno; cases hno
      · rw [e, hI.b5] at hno; cases hno
def cap5 (G : List (List Int)) (n : Nat) : Prop := G.length + n ≤ 100000
theorem least_yield {f : FlowP} {lines : List (List Int)} {s need : Int} {off : Nat} {L : LoopC} (ho : OkV f lines) (he : errV f lines [] = 0) (hs : 0 ≤ s ∧ s < f.senders) (hoff : off ≤ 12) (hL : (Try.f13.body.bind rfOf) = some (L.ps, L.assign, L.body)) (hLt : L.tms.size = 49) :
    ∀ B tm st q i n m c (K : St → Prop), (leastX f lines s need off L).Cx B tm → B.N = 43 → lkT tm 15 = .yl 8 → isCo off c → cap5 i (n + 1) → (leastX f lines s need off L).Inv i st q → lkB st m = some (rowI c) → m < q →
    (∀ st' q', (leastX f lines s need off L).Inv (stepL (fun x => brkB f lines x s need) i c) st' q' → q ≤ q' → (∀ n c, n ≠ m → lkB st n = some (rowI c) → lkB st' n = some (rowI c)) → (∀ k, k < q → lkB st k = none → lkB st' k = none) → K ⟨put (some 18) (vB true) tm, st', q'⟩) → yieldI Try.prog B 8 [.mo m] (some 18) ⟨tm, st, q⟩ K ⟨⟩ := by
  dsimp only [Try.f13, rfOf, Option.bind_some] at hL
  simp only [Option.some.injEq, Prod.mk.injEq] at hL
  obtain ⟨hLp, hLa, hLb⟩ := hL
  have hLp := hLp.symm
  have hLa := hLa.symm
  have hLb := hLb.symm
  intro B tm st q i n m c K hC hBN h15 hco hcap hI hm hmq hK
  obtain ⟨o, hr, hg, ht⟩ := hC
  obtain ⟨M, z, hI⟩ := hI
  obtain ⟨z0, z1, z2, z5, z6, z7, z8, z10, z11⟩ := hI.zz
  have hq12 := hI.q12
  have hne : ∀ k x, lkB st k = some x → isRow x = false → k ≠ m := fun k x hk hx e => by
    rw [e, hm] at hk; cases hk; simp [rowI, isRow] at hx
  have y1 := hne 1 _ hI.b1 rfl
  have y2 := hne 2 _ hI.b2 rfl
  have y5 := hne 5 _ hI.b5 rfl
  have y6 := hne 6 _ hI.b6 rfl
  have y8 := hne 8 _ hI.b8 rfl
  have yz := hne z _ hI.bz rfl
  refine yieldI_fresh hr fun hfr => ?_
  refine yieldI_in 15 o hr hI.b8 hLp hLa hLb rfl rfl hLt hBN hg (by rw [hBN]; rfl) ?_
  intro a
  refine aw_lessS (s1 := ⟨(31, .mo m) :: (9, .ptr 1 0) :: (10, .ptr 2 0) :: (12, .ptr 6 0) :: shT 49 tm,
    (m, rowI c) :: (z, .tok 26 1 i.length) :: (1, .cells 3 [vI need]) :: (2, .cells 25 [.ow z 1 (issD []) (i.map issD)]) :: (5, crowdM M) :: (6, .cells 56 (viewV f lines s 5)) :: (8, .loop L .ready none) :: st, q⟩)
    ⟨pick_less (e := tmLs) (fun t h => by rw [← hBN]; exact ht t h) (by decide) rfl, lessB_cons hm (lessB_cons hI.bz (lessB_cons hI.b1 (lessB_cons hI.b2 (lessB_cons hI.b5 (lessB_cons hI.b6 (lessB_cons hI.b8 (lessB_refl _))))))), Nat.le_refl _⟩ ?_
  obtain ⟨p, rfl⟩ : ∃ p, q = p + 12 := ⟨q - 12, by omega⟩
  have h64 : lkT (shT 49 tm) 64 = .yl 8 := by rw [lkT_shT, if_pos (by decide)]; exact h15
  have h64r : ∀ r, lkT (shT 49 tm ++ r) 64 = .yl 8 := fun r => lkT_app_hit (fun e => by cases e) h64
  have hN : ((1 = m) = False) ∧ ((2 = m) = False) ∧ ((5 = m) = False) ∧ ((6 = m) = False) ∧ ((8 = m) = False) ∧ ((m = 1) = False) ∧ ((m = 2) = False) ∧ ((m = 5) = False) ∧ ((m = 6) = False) ∧ ((m = 8) = False) ∧ ((1 = z) = False) ∧ ((2 = z) = False) ∧ ((5 = z) = False) ∧ ((6 = z) = False) ∧ ((8 = z) = False) ∧ ((z = 1) = False) ∧ ((z = 2) = False) ∧ ((z = 5) = False) ∧ ((z = 6) = False) ∧ ((z = 8) = False) ∧ ((z = m) = False) ∧ ((m = z) = False) ∧ ((m = p + 12) = False) ∧ ((z = p + 12) = False) ∧ ((p + 12 = m) = False) ∧ ((p + 12 = z) = False) := by
    refine ⟨?_, ?_, ?_, ?_, ?_, ?_, ?_, ?_, ?_, ?_, ?_, ?_, ?_, ?_, ?_, ?_, ?_, ?_, ?_, ?_, ?_, ?_, ?_, ?_, ?_, ?_⟩ <;> exact eq_false (by omega)
  refine aw_frzO m 31 (el := 3) (sz := 1) (d0V := dV (zD (.int .i64 0))) (intD 0) (c.map intD) (if_pos rfl) rfl rfl ?_
  simp only [setT, setB, reduceIte]
  have hco : isCo off c := hco
  have hcl : c.length ≤ 12 := by have := hco.len; omega
  have hcb : ∀ n ∈ c, -9223372036854775808 ≤ n ∧ n ≤ 9223372036854775807 := fun n hn => by
    have := hco.2 n hn
    omega
  have hec : errV f lines c = 0 := by
    obtain ⟨w1, w2, w3, w4, w5⟩ := errV_zero he
    exact (view_ok w1 w4 w5 (hco.coal (by omega))).1
  have hcap' : i.length + (n + 1) ≤ 100000 := hcap
  have hIL : ∀ y ∈ i, y.length ≤ 140737488351232 := fun y hy => by
    have := (hI.el y hy).len
    omega
  have hI1 := intss_contains i (fun y => withinB y c) (by omega)
  have hw1 : ∀ asA r, FnM aIs (fun y => withinB y c) i asA r → Spec Try.prog 31 (asA ++ [.one (.pt [.sl 1 (intD 0) (c.map intD)])]) r := by
    rintro asA r ⟨y, hy, rfl, rfl⟩
    exact bleast1_spec y c (hIL y hy) (by omega)
  have hfz : ∀ {σ : Nat → Option Blk} {t : Nat}, σ (p + 12) = some (.cells t [.ow m 1 (intD 0) (c.map intD)]) → FzA Try.prog σ [.ow z 1 (issD []) (i.map issD), .fn 31 [.ptr (p + 12) 0]] [aIss i, .one (.x (FnR Try.prog (FnM aIs (fun y => withinB y c) i)))] := fun h =>
    FzA.one (Fz.d rfl) (FzA.one (Fz.fn (FzA.one (Fz.pt h (FzL.cons (Fz.d rfl) FzL.nil)) FzA.nil) (by kernel_rfl) hw1) FzA.nil)
  have hfv : ∀ {σ : Nat → Option Blk}, σ 5 = some (crowdM M) → FzA Try.prog σ [.agg [vI f.senders, vLots f.lots, vIss lines, vI s, .mp 5], .ow m 1 (intD 0) (c.map intD)] [.agg [.c (.int .i64 f.senders), .sl 3 (lotD default) (f.lots.map lotD), .sl 1 (issD []) (lines.map issD), .c (.int .i64 s), .mp .s 9 (.int .i64 0) (.c (.int .i64 0)) (M.map (·.1)) (M.map fun p => .c (.int .i64 p.2))], aIs c] := fun h =>
    FzA.agg (FzL.cons (Fz.d rfl) (FzL.cons (Fz.d rfl) (FzL.cons (Fz.d rfl) (FzL.cons (Fz.d rfl) (FzL.cons (Fz.mp h (keys_intW M).symm (Fz.d rfl) (FzL_intW M)) FzL.nil))))) (FzA.one (Fz.d rfl) FzA.nil)
  have hm5 : ∀ {x0 x1 x2 x3 x4 : Blk} {r : List (Nat × Blk)}, lkB ((p + 12, x0) :: (m, x1) :: (z, x2) :: (1, x3) :: (2, x4) :: (5, crowdM M) :: r) 5 = some (crowdM M) := fun {x0 x1 x2 x3 x4 r} =>
    (lkB_ne (by omega)).trans ((lkB_ne y5).trans ((lkB_ne (Ne.symm z5)).trans ((lkB_ne (by decide)).trans ((lkB_ne (by decide)).trans (if_pos rfl)))))
  repeat' (first | (with_reducible refine aw_seq ?_) | (with_reducible refine aw_stop (id := 11) ?_) | ((with_reducible refine twoG_intro ?_ ?_) <;> intro h <;> first | contradiction | ((try simp only [h, avT]); (first | (guard_hyp h : true = true; clear h) | (guard_hyp h : false = false; clear h) | (revert h; intro _)))) | ((with_reducible refine two_intro ?_ ?_) <;> intro h <;> first | contradiction | ((first | (guard_hyp h : true = true; clear h) | (guard_hyp h : false = false; clear h) | (revert h; intro _)))) | ((with_reducible refine And.intro ?_ ?_); (focus (first | exact keyOk_str_ | omega | rfl | decide | grind))) | (with_reducible refine aw_block ?_) | (with_reducible refine aw_scope ?_) | ((first | ((with_reducible refine aw_regionA T_ok ?_ ?_); kernel_rfl) | ((with_reducible refine aw_drawnA T_ok ?_ ?_ ?_ ?_); kernel_rfl; kernel_rfl; (focus (decide +kernel))) | ((with_reducible refine aw_drawnF T_ok ?_ ?_ ?_ ?_); kernel_rfl; kernel_rfl; (focus (decide +kernel))) | (with_reducible refine aw_label ?_) | ((with_reducible refine aw_rfM ?_ ?_); kernel_rfl) | (with_reducible refine aw_skip ?_) | (with_reducible refine aw_exit ?_) | ((with_reducible refine aw_condM ?_ ?_); kernel_rfl) | (with_reducible refine aw_ret ?_)); simp only [↓avP, avQ, avR, forall_const, implies_true, reduceIte, Nat.reduceEqDiff, Nat.reduceAdd, Nat.reduceSub, Int.reduceToNat, Nat.reduceLeDiff, Nat.reduceLT, reduceCtorEq, Int.reduceEq, avS, intD_B, byD_B, lotD_B, fl_ex, snocI, ty_3, ty_26, ty_4, ty_25, ty_9, ty_24, ty_50, ty_22, ty_56, ty_54, ty_44, ty_72, issD_get, viewV, nmB, unT_shT, unT_app, setT_sha, setT_sh, lkT_sha, lkT_sh, lkB_setB, lkB_delB, hN, h64, h64r]; try simp (disch := omega) only [av_w, av_t1, av_tp, Int.toNat_natCast]))
  refine ⟨?_⟩
  cases hcov : coverB i c with
  | true =>
    have hcov' : (i.any fun y => withinB y c) = true := hcov
    rw [hcov'] at hI1
    have hstep : stepL (fun x => brkB f lines x s need) i c = i := by rw [stepL, hcov]; rfl
    repeat' (first | (with_reducible refine aw_seq ?_) | ((with_reducible refine twoG_intro ?_ ?_) <;> intro h <;> first | contradiction | ((try simp only [h, avT]); (first | (guard_hyp h : true = true; clear h) | (guard_hyp h : false = false; clear h) | (revert h; intro _)))) | ((with_reducible refine two_intro ?_ ?_) <;> intro h <;> first | contradiction | ((first | (guard_hyp h : true = true; clear h) | (guard_hyp h : false = false; clear h) | (revert h; intro _)))) | ((with_reducible refine And.intro ?_ ?_); (focus (first | exact keyOk_str_ | omega | rfl | decide | grind))) | (with_reducible refine aw_block ?_) | (with_reducible refine aw_scope ?_) | ((first | ((with_reducible refine aw_regionA T_ok ?_ ?_); kernel_rfl) | ((with_reducible refine aw_drawnA T_ok ?_ ?_ ?_ ?_); kernel_rfl; kernel_rfl; (focus (decide +kernel))) | ((with_reducible refine aw_drawnF T_ok ?_ ?_ ?_ ?_); kernel_rfl; kernel_rfl; (focus (decide +kernel))) | ((with_reducible refine callK_fz (hI1) rfl ?_ ?_ ?_); (focus (exact (hfz (if_pos rfl)))); kernel_rfl) | ((refine callK_skipF (r := (.r1 (aI 0))) rfl ((hfv hm5)) ?_ ?_); kernel_rfl) | (with_reducible refine aw_label ?_) | ((with_reducible refine aw_rfM ?_ ?_); kernel_rfl) | (with_reducible refine aw_skip ?_) | (with_reducible refine aw_exit ?_) | ((with_reducible refine aw_condM ?_ ?_); kernel_rfl) | (with_reducible refine aw_ret ?_)); simp only [↓avP, avQ, avR, forall_const, implies_true, reduceIte, Nat.reduceEqDiff, Nat.reduceAdd, Nat.reduceSub, Int.reduceToNat, Nat.reduceLeDiff, Nat.reduceLT, reduceCtorEq, Int.reduceEq, avS, intD_B, byD_B, lotD_B, fl_ex, snocI, ty_3, ty_26, ty_4, ty_25, ty_9, ty_24, ty_50, ty_22, ty_56, ty_54, ty_44, ty_72, issD_get, viewV, nmB, unT_shT, unT_app, setT_sha, setT_sh, lkT_sha, lkT_sh, lkB_setB, lkB_delB, hN, h64, h64r]; try simp (disch := omega) only [av_w, av_t1, av_tp, Int.toNat_natCast]))
    obtain ⟨g1, g2, g3⟩ := yield_fin (st' := (p + 12, .cells 26 [.ow m 1 (intD 0) (c.map intD)]) :: (m, .tok 3 1 c.length) :: (z, .tok 26 1 i.length) :: (1, .cells 3 [vI need]) :: (2, .cells 25 [.ow z 1 (issD []) (i.map issD)]) :: (5, crowdM M) :: (6, .cells 56 (viewV f lines s 5)) :: (8, .loop L .ready none) :: st) (q' := p + 12 + 1 + 11) hI hfr hm
      (agree_new (Nat.le_refl _) (agree_ex (.inl rfl) (agree_same hI.bz (agree_same hI.b1 (agree_same hI.b2 (agree_same hI.b5 (agree_same hI.b6 (agree_same hI.b8 (agree_refl _ _ _)))))))))
      ((lkB_ne (by omega)).trans ((lkB_ne y2).trans ((lkB_ne (Ne.symm z2)).trans ((lkB_ne (by decide)).trans (if_pos rfl))))) hm5
      ((lkB_ne (by omega)).trans ((lkB_ne yz).trans (if_pos rfl))) (.inl rfl) (by omega) hI.ok (by omega) hI.el
    exact hK _ _ (by rw [hstep]; exact g1) (by omega) g2 g3
  | false =>
    have hcov' : (i.any fun y => withinB y c) = false := hcov
    rw [hcov'] at hI1
    have hstep : stepL (fun x => brkB f lines x s need) i c = if brkB f lines c s need = true then i ++ [c] else i := by rw [stepL, hcov]; simp
    refine aw_drawnN (ι := {x : AM Int × Nat // CrowdOk f lines s x.1 ∧ p + 12 + 1 ≤ x.2}) 7 40 [0, 1, 2, 3, 4, 5, 6, 8] [9, 10]
      ((31, .ow m 1 (intD 0) (c.map intD)) :: (9, .ptr 1 0) :: (10, .ptr 2 0) :: (12, .ptr 6 0) :: (shT 49 tm ++ [(13, .ptr (p + 12) 0), (32, .fn 31 [.ptr (p + 12) 0]), (14, .fn 31 [.ptr (p + 12) 0]), (33, .ow z 1 (issD []) (i.map issD)), (34, .fn 31 [.ptr (p + 12) 0]), (35, vB false), (36, vB true), (37, vB true), (38, .cond true (.agg [vI f.senders, vLots f.lots, vIss lines, vI s, .mp 5])), (39, .cond true (.ow m 1 (intD 0) (c.map intD))), (41, .cond true (vI need))]))
      [(p + 12, .cells 26 [.ow m 1 (intD 0) (c.map intD)]), (m, .tok 3 1 c.length), (z, .tok 26 1 i.length), (1, .cells 3 [vI need]), (2, .cells 25 [.ow z 1 (issD []) (i.map issD)]), (6, .cells 56 [vI f.senders, vLots f.lots, vIss lines, vI s, .mp 5])]
      (fun x => (p + 12, .cells 26 [.ow m 1 (intD 0) (c.map intD)]) :: (m, .tok 3 1 c.length) :: (z, .tok 26 1 i.length) :: (1, .cells 3 [vI need]) :: (2, .cells 25 [.ow z 1 (issD []) (i.map issD)]) :: (5, crowdM x.1.1) :: (6, .cells 56 [vI f.senders, vLots f.lots, vIss lines, vI s, .mp 5]) :: (8, .loop L .busy none) :: st)
      (fun x => x.1.2) (vI (crowdF f lines c s)) T_ok ?_ ?_ ?_ rfl ?_ ?_ ?_ ?_ ?_
    · kernel_rfl
    · kernel_rfl
    · decide +kernel
    · exact lessB_same (lessB_same (lessB_same (lessB_same (lessB_same (lessB_skip rfl (lessB_same (lessB_nil _)))))))
    · exact fun _ => lessB_same (lessB_same (lessB_same (lessB_same (lessB_same (lessB_skip rfl (lessB_same (lessB_nil _)))))))
    · intro nx
      simp only [↓avP, avQ, avR, forall_const, implies_true, reduceIte, Nat.reduceEqDiff, Nat.reduceAdd, Nat.reduceSub, Int.reduceToNat, Nat.reduceLeDiff, Nat.reduceLT, reduceCtorEq, Int.reduceEq, avS, intD_B, byD_B, lotD_B, fl_ex, snocI, ty_3, ty_26, ty_4, ty_25, ty_9, ty_24, ty_50, ty_22, ty_56, ty_54, ty_44, ty_72, issD_get, viewV, nmB, unT_shT, unT_app, setT_sha, setT_sh, lkT_sha, lkT_sh, lkB_setB, lkB_delB, hN, h64, h64r]
      refine callK_fz hI1 rfl (hfz (if_pos rfl)) (by kernel_rfl) ?_
      simp only [↓avP, avQ, avR, forall_const, implies_true, reduceIte, Nat.reduceEqDiff, Nat.reduceAdd, Nat.reduceSub, Int.reduceToNat, Nat.reduceLeDiff, Nat.reduceLT, reduceCtorEq, Int.reduceEq, avS, intD_B, byD_B, lotD_B, fl_ex, snocI, ty_3, ty_26, ty_4, ty_25, ty_9, ty_24, ty_50, ty_22, ty_56, ty_54, ty_44, ty_72, issD_get, viewV, nmB, unT_shT, unT_app, setT_sha, setT_sh, lkT_sha, lkT_sh, lkB_setB, lkB_delB, hN, h64, h64r]
    · simp only [↓avP, avQ, avR, forall_const, implies_true, reduceIte, Nat.reduceEqDiff, Nat.reduceAdd, Nat.reduceSub, Int.reduceToNat, Nat.reduceLeDiff, Nat.reduceLT, reduceCtorEq, Int.reduceEq, avS, intD_B, byD_B, lotD_B, fl_ex, snocI, ty_3, ty_26, ty_4, ty_25, ty_9, ty_24, ty_50, ty_22, ty_56, ty_54, ty_44, ty_72, issD_get, viewV, nmB, unT_shT, unT_app, setT_sha, setT_sh, lkT_sha, lkT_sh, lkB_setB, lkB_delB, ↓callN.eq_def, hN, h64, h64r]
      intro tm1
      refine callI_args (fun E us hu => ?_) (bcrowd_call f lines s c M rfl (show 5 < p + 12 + 1 by omega) hm5 ho (by omega) hcb hs hec hI.ok fun M' q' hM' hq => ⟨⟨(M', q'), hM', hq⟩, ?_⟩)
      · simp only [RVL] at hu ⊢
        obtain ⟨u1, r1, rfl, h1, u2, r2, rfl, h2, h3⟩ := hu
        exact ⟨u1, _, rfl, h1, u2, r2, rfl, by simp only [RV] at h2 ⊢; exact h2.2, h3⟩
      · simp only [setB, reduceIte, Nat.reduceEqDiff, hN]
    · rintro ⟨⟨M', q'⟩, hM', hq'⟩
      dsimp only at hM' hq' ⊢
      obtain ⟨p', rfl⟩ : ∃ p', q' = p' + 12 := ⟨q' - 12, by omega⟩
      have hN2 : ((m = p' + 12) = False) ∧ ((z = p' + 12) = False) ∧ ((p' + 12 = m) = False) ∧ ((p' + 12 = z) = False) ∧ ((p' + 12 = p + 12) = False) ∧ ((p + 12 = p' + 12) = False) ∧ ((p = p') = False) ∧ ((p' = p) = False) := by
        refine ⟨?_, ?_, ?_, ?_, ?_, ?_, ?_, ?_⟩ <;> exact eq_false (by omega)
      cases hbk : decide ((crowdF f lines c s : Int) < need) with
      | true =>
        have hb2 : brkB f lines c s need = true := hbk
        rw [hb2, if_pos rfl] at hstep
        simp only [↓avP, avQ, avR, forall_const, implies_true, reduceIte, Nat.reduceEqDiff, Nat.reduceAdd, Nat.reduceSub, Int.reduceToNat, Nat.reduceLeDiff, Nat.reduceLT, reduceCtorEq, Int.reduceEq, avS, intD_B, byD_B, lotD_B, fl_ex, snocI, ty_3, ty_26, ty_4, ty_25, ty_9, ty_24, ty_50, ty_22, ty_56, ty_54, ty_44, ty_72, issD_get, viewV, nmB, unT_shT, unT_app, setT_sha, setT_sh, lkT_sha, lkT_sh, lkB_setB, lkB_delB, hN, h64, h64r, hbk]
        repeat' (first | (with_reducible refine aw_seq ?_) | ((with_reducible refine twoG_intro ?_ ?_) <;> intro h <;> first | contradiction | ((try simp only [h, avT]); (first | (guard_hyp h : true = true; clear h) | (guard_hyp h : false = false; clear h) | (revert h; intro _)))) | ((with_reducible refine two_intro ?_ ?_) <;> intro h <;> first | contradiction | ((first | (guard_hyp h : true = true; clear h) | (guard_hyp h : false = false; clear h) | (revert h; intro _)))) | ((with_reducible refine And.intro ?_ ?_); (focus (first | exact keyOk_str_ | omega | rfl | decide | grind))) | (with_reducible refine aw_block ?_) | (with_reducible refine aw_scope ?_) | ((first | ((with_reducible refine aw_regionA T_ok ?_ ?_); kernel_rfl) | ((with_reducible refine aw_drawnA T_ok ?_ ?_ ?_ ?_); kernel_rfl; kernel_rfl; (focus (decide +kernel))) | ((with_reducible refine aw_drawnF T_ok ?_ ?_ ?_ ?_); kernel_rfl; kernel_rfl; (focus (decide +kernel))) | (with_reducible refine aw_label ?_) | ((with_reducible refine aw_rfM ?_ ?_); kernel_rfl) | (with_reducible refine aw_skip ?_) | (with_reducible refine aw_exit ?_) | ((with_reducible refine aw_condM ?_ ?_); kernel_rfl) | (with_reducible refine aw_ret ?_)); simp only [↓avP, avQ, avR, forall_const, implies_true, reduceIte, Nat.reduceEqDiff, Nat.reduceAdd, Nat.reduceSub, Int.reduceToNat, Nat.reduceLeDiff, Nat.reduceLT, reduceCtorEq, Int.reduceEq, avS, intD_B, byD_B, lotD_B, fl_ex, snocI, ty_3, ty_26, ty_4, ty_25, ty_9, ty_24, ty_50, ty_22, ty_56, ty_54, ty_44, ty_72, issD_get, viewV, nmB, unT_shT, unT_app, setT_sha, setT_sh, lkT_sha, lkT_sh, lkB_setB, lkB_delB, hN, hN2, h64, h64r, hbk]; try simp (disch := omega) only [av_w, av_t1, av_tp, Int.toNat_natCast]))
        have e1 : i.map issD ++ [[.sl 1 (intD 0) (c.map intD)]] = (i ++ [c]).map issD := by rw [List.map_append]; rfl
        have e2 : i.length + 1 = (i ++ [c]).length := by rw [List.length_append, List.length_singleton]
        rw [e1, e2]
        obtain ⟨g1, g2, g3⟩ := yield_fin (z' := p' + 12 + 1) (G' := i ++ [c]) (st' := (p' + 12 + 1, .tok 26 1 (i ++ [c]).length) :: (p' + 12, .tok 26 1 1) :: (p + 12, .cells 26 [.ow m 1 (intD 0) (c.map intD)]) :: (m, .tok 3 1 c.length) :: (1, .cells 3 [vI need]) :: (2, .cells 25 [.ow (p' + 12 + 1) 1 (issD []) ((i ++ [c]).map issD)]) :: (5, crowdM M') :: (6, .cells 56 (viewV f lines s 5)) :: (8, .loop L .ready none) :: delB z st) (q' := p' + 12 + 1 + 1) hI hfr hm
          (agree_new (by omega) (agree_new (by omega) (agree_new (Nat.le_refl _) (agree_ex (.inl rfl) (agree_same hI.b1 (agree_ex (.inr (.inr (.inl rfl))) (agree_ex (.inr (.inr (.inr rfl))) (agree_same hI.b6 (agree_same hI.b8 (agree_del (.inr (.inl rfl)) (agree_refl _ _ _)))))))))))
          ((lkB_ne (by omega)).trans ((lkB_ne (by omega)).trans ((lkB_ne (by omega)).trans ((lkB_ne y2).trans ((lkB_ne (by decide)).trans (if_pos rfl))))))
          ((lkB_ne (by omega)).trans ((lkB_ne (by omega)).trans ((lkB_ne (by omega)).trans ((lkB_ne y5).trans ((lkB_ne (by decide)).trans ((lkB_ne (by decide)).trans (if_pos rfl)))))))
          (if_pos rfl) (.inr (by omega)) (by omega) hM' (by omega) (fun y hy => (List.mem_append.1 hy).elim (hI.el y) (fun h => by rw [List.mem_singleton.1 h]; exact hco))
        exact hK _ _ (by rw [hstep]; exact g1) (by omega) g2 g3
      | false =>
        have hb2 : brkB f lines c s need = false := hbk
        rw [hb2, if_neg (by simp)] at hstep
        simp only [↓avP, avQ, avR, forall_const, implies_true, reduceIte, Nat.reduceEqDiff, Nat.reduceAdd, Nat.reduceSub, Int.reduceToNat, Nat.reduceLeDiff, Nat.reduceLT, reduceCtorEq, Int.reduceEq, avS, intD_B, byD_B, lotD_B, fl_ex, snocI, ty_3, ty_26, ty_4, ty_25, ty_9, ty_24, ty_50, ty_22, ty_56, ty_54, ty_44, ty_72, issD_get, viewV, nmB, unT_shT, unT_app, setT_sha, setT_sh, lkT_sha, lkT_sh, lkB_setB, lkB_delB, hN, h64, h64r, hbk]
        repeat' (first | (with_reducible refine aw_seq ?_) | ((with_reducible refine twoG_intro ?_ ?_) <;> intro h <;> first | contradiction | ((try simp only [h, avT]); (first | (guard_hyp h : true = true; clear h) | (guard_hyp h : false = false; clear h) | (revert h; intro _)))) | ((with_reducible refine two_intro ?_ ?_) <;> intro h <;> first | contradiction | ((first | (guard_hyp h : true = true; clear h) | (guard_hyp h : false = false; clear h) | (revert h; intro _)))) | ((with_reducible refine And.intro ?_ ?_); (focus (first | exact keyOk_str_ | omega | rfl | decide | grind))) | (with_reducible refine aw_block ?_) | (with_reducible refine aw_scope ?_) | ((first | ((with_reducible refine aw_regionA T_ok ?_ ?_); kernel_rfl) | ((with_reducible refine aw_drawnA T_ok ?_ ?_ ?_ ?_); kernel_rfl; kernel_rfl; (focus (decide +kernel))) | ((with_reducible refine aw_drawnF T_ok ?_ ?_ ?_ ?_); kernel_rfl; kernel_rfl; (focus (decide +kernel))) | (with_reducible refine aw_label ?_) | ((with_reducible refine aw_rfM ?_ ?_); kernel_rfl) | (with_reducible refine aw_skip ?_) | (with_reducible refine aw_exit ?_) | ((with_reducible refine aw_condM ?_ ?_); kernel_rfl) | (with_reducible refine aw_ret ?_)); simp only [↓avP, avQ, avR, forall_const, implies_true, reduceIte, Nat.reduceEqDiff, Nat.reduceAdd, Nat.reduceSub, Int.reduceToNat, Nat.reduceLeDiff, Nat.reduceLT, reduceCtorEq, Int.reduceEq, avS, intD_B, byD_B, lotD_B, fl_ex, snocI, ty_3, ty_26, ty_4, ty_25, ty_9, ty_24, ty_50, ty_22, ty_56, ty_54, ty_44, ty_72, issD_get, viewV, nmB, unT_shT, unT_app, setT_sha, setT_sh, lkT_sha, lkT_sh, lkB_setB, lkB_delB, hN, hN2, h64, h64r, hbk]; try simp (disch := omega) only [av_w, av_t1, av_tp, Int.toNat_natCast]))
        obtain ⟨g1, g2, g3⟩ := yield_fin (M' := M') (st' := (p + 12, .cells 26 [.ow m 1 (intD 0) (c.map intD)]) :: (m, .tok 3 1 c.length) :: (z, .tok 26 1 i.length) :: (1, .cells 3 [vI need]) :: (2, .cells 25 [.ow z 1 (issD []) (i.map issD)]) :: (5, crowdM M') :: (6, .cells 56 (viewV f lines s 5)) :: (8, .loop L .ready none) :: st) (q' := p' + 12) hI hfr hm
          (agree_new (Nat.le_refl _) (agree_ex (.inl rfl) (agree_same hI.bz (agree_same hI.b1 (agree_same hI.b2 (agree_ex (.inr (.inr (.inr rfl))) (agree_same hI.b6 (agree_same hI.b8 (agree_refl _ _ _)))))))))
          ((lkB_ne (by omega)).trans ((lkB_ne y2).trans ((lkB_ne (Ne.symm z2)).trans ((lkB_ne (by decide)).trans (if_pos rfl)))))
          ((lkB_ne (by omega)).trans ((lkB_ne y5).trans ((lkB_ne (Ne.symm z5)).trans ((lkB_ne (by decide)).trans ((lkB_ne (by decide)).trans (if_pos rfl))))))
          ((lkB_ne (by omega)).trans ((lkB_ne yz).trans (if_pos rfl))) (.inl rfl) (by omega) hM' (by omega) hI.el
        exact hK _ _ (by rw [hstep]; exact g1) (by omega) g2 g3
end Go.Proofs.Ytlnkmaejiceloaa

