import Derived.Test.YtfmefdeldgmhpaaHA13
namespace Go.Proofs.Ytfmefdeldgmhpaa
open Go.RowKit Go.Lib
set_option linter.unusedVariables false
set_option linter.unusedSimpArgs false
theorem zeroE_len (k : Nat) : (Builtin.zeroCells (Value.agg (Array.replicate 8 (.int .i64 0))).cells k).size = k * 8 := by
  simp [Builtin.zeroCells, Value.cells]
set_option maxHeartbeats 4000000 in
set_option maxRecDepth 100000 in
theorem insE_grow (b n c i vb vc : Nat) (cs vs : List Value) (w : World) (hi : i < n) (hnc : n ≤ c) (hroom : c < n + 1) (hbig : (n + 1) * 64 ≤ 140737488355328)
    (hcl : cs.length = n * 8) (hvl : vs.length = 8)
    (hcs : ∀ j v, cs[j]? = some v → w.cell? ⟨b, j, none⟩ = some v)
    (hvs : ∀ j v, vs[j]? = some v → w.cell? ⟨vb, j, none⟩ = some v) (h1c : ∀ v ∈ cs, v.oneCell' = true) (h1v : ∀ v ∈ vs, v.oneCell' = true) :
    Calls Try.prog 56 #[.slice (some ⟨b, 0, none⟩) n c, .int .i64 i, .slice (some ⟨vb, 0, none⟩) 1 vc] w fun e w' =>
      ∃ G cur, e = .returned (.slice (some ⟨w.heap.size, 0, none⟩) (n + 1) G) ∧ w'.heap[w.heap.size]? = some (.cells cur 39 (0, 0)) ∧ n + 1 ≤ G ∧ G ≤ maxLen ∧ cur.size = G * 8 ∧ cur.toList.take ((n + 1) * 8) = cs.take (i * 8) ++ vs ++ cs.drop (i * 8) ∧ Below w.heap.size w w' := by
  obtain ⟨i0, hi0, hz0, hzs, hzb⟩ := info_parts elemE.info
  have hz2 : ¬ ((i : Int) = (n : Int)) := by omega
  have hz3 : (c : Int) < (n : Int) + 1 := by omega
  have hsE : (Try.prog.info? 39).map (·.size) = some 8 := by kernel_rfl
  have hbw : b < w.heap.size := block_lt_of_cell (hcs 0 _ (List.getElem?_eq_getElem (by omega)))
  have hvw : vb < w.heap.size := block_lt_of_cell (hvs 0 _ (List.getElem?_eq_getElem (by omega)))
  have hkk : (n : Int) + 1 - (i : Int) = ((n + 1 - i : Nat) : Int) := by omega
  have hik : i + (n + 1 - i) = n + 1 := by omega
  have hold : (Builtin.firstCells i0.size i (.slice (some ⟨b, 0, none⟩) i c)).run Try.prog w.drew = .ok (cs.take (i * 8)).toArray w.drew := by
    rw [hzs]
    exact run_firstCells_some w.drew 8 i ⟨b, 0, none⟩ i c (cs.take (i * 8)) (by rw [List.length_take]; omega) (fun j v hj => by
      rw [Addr.add_lit, Nat.zero_add]
      rw [List.getElem?_take] at hj
      split at hj
      · exact hcs j v hj
      · cases hj)
  have hrz : ∀ ty, (Builtin.append_ #[22, 3] ty #[.slice (some ⟨b, 0, none⟩) i c, .int .i64 ((n : Int) + 1 - (i : Int))]).run Try.prog w =
      .ok (.slice (some ⟨w.heap.size, 0, none⟩) (n + 1) (grownCap w (n + 1) c 39)) (w.drew.alloc (.cells ((cs.take (i * 8)).toArray ++ Builtin.zeroCells (Value.agg (Array.replicate 8 (.int .i64 0))).cells (n + 1 - i) ++ Builtin.zeroCells (Value.agg (Array.replicate 8 (.int .i64 0))).cells (grownCap w (n + 1) c 39 - (n + 1))) 39)) := fun ty => by
    have h := Lib.run_append_grow_zeros w 22 3 ty 39 i0 _ .i64 .i64 Try.underlying22 Try.underlying3 hi0 hz0 (some ⟨b, 0, none⟩) i c (cs.take (i * 8)) hold (n + 1 - i) (by omega) (by omega) (by omega) (by omega) (by rw [hzb]; omega) (by rw [hzb, hik]; exact growslice_fits hroom hbig)
    rw [hik] at h
    rw [hkk]
    exact h
  obtain ⟨G, hG⟩ : ∃ G, G = grownCap w (n + 1) c 39 := ⟨_, rfl⟩
  obtain ⟨ROW, hROW⟩ : ∃ ROW : Array Value, ROW = (cs.take (i * 8)).toArray ++ Builtin.zeroCells (Value.agg (Array.replicate 8 (.int .i64 0))).cells (n + 1 - i) ++ Builtin.zeroCells (Value.agg (Array.replicate 8 (.int .i64 0))).cells (G - (n + 1)) := ⟨_, rfl⟩
  rw [← hG] at hrz
  rw [← hROW] at hrz
  have hGn : n + 1 ≤ G := by rw [hG]; exact grownCap_ge w _ _ _
  have hGm : G ≤ maxLen := by rw [hG]; exact grownCap_le_maxLen w (n + 1) c 39 (by unfold maxLen; omega)
  have hG63 : G ≤ 9223372036854775807 := by
    have := hGm
    unfold maxLen at this
    omega
  have hRs : ROW.size = G * 8 := by
    rw [hROW]
    simp only [Array.size_append, zeroE_len, List.size_toArray, List.length_take, hcl]
    omega
  have hRt : ROW.toList.take (i * 8) = cs.take (i * 8) := by
    rw [hROW]
    simp only [Array.toList_append, List.append_assoc]
    rw [List.take_append_of_le_length (by rw [List.length_take]; omega), List.take_take, Nat.min_self]
  have hRl : ROW.toList.length = G * 8 := by simpa using hRs
  obtain ⟨W1, hW1⟩ : ∃ W1, W1 = w.drew.alloc (.cells ROW 39) := ⟨_, rfl⟩
  rw [← hW1] at hrz
  have hg1 : W1.heap[w.heap.size]? = some (.cells ROW 39 (0, 0)) := by rw [hW1]; exact heap_alloc_new w.drew _
  have hbelow1 : Below w.heap.size w W1 := by
    rw [hW1]
    have h := (Below.refl w.heap.size w.drew).alloc (Nat.le_refl _) (.cells ROW 39)
    exact ⟨h.os, h.tape, h.output, h.size, h.block⟩
  obtain ⟨c1, hc1⟩ : ∃ c1 : Array Value, c1 = (ROW.toList.take (i * 8) ++ vs ++ ROW.toList.drop (i * 8 + vs.length)).toArray := ⟨_, rfl⟩
  have hc1l : c1.toList.length = G * 8 := by
    rw [hc1]
    simp only [List.toList_toArray, List.length_append, List.length_take, List.length_drop, hRl, hvl]
    have : i * 8 + 8 ≤ G * 8 := by omega
    omega
  have hvs1 : ∀ j v, vs[j]? = some v → W1.cell? ⟨vb, j, none⟩ = some v := fun j v hj => below_cell hbelow1 (hvs j v hj)
  have hcpA : ∀ (W : World), W.heap = W1.heap → ∀ ty dc, (Builtin.copy_ #[22, 22] ty #[.slice (some ⟨w.heap.size, i * 8, none⟩) (n + 1 - i) dc, .slice (some ⟨vb, 0, none⟩) 1 vc]).run Try.prog W = .ok (goInt (Nat.min 1 (n + 1 - i))) (W.setRow w.heap.size c1) := fun W hW ty dc => by
    rw [hc1]
    exact run_copy_rowN W 22 22 ty 39 8 w.heap.size (i * 8) (n + 1 - i) dc ⟨vb, 0, none⟩ 1 vc ROW 39 vs Try.underlying22 hsE (by rw [hW]; exact hg1) (by rw [hvl]; simp only [Nat.min_def]; split <;> omega) (fun j v hj => by rw [Addr.add_lit, Nat.zero_add]; have := hvs1 j v hj; simpa [World.cell?, hW] using this) (by rw [hvl, hRs]; omega) h1v
  obtain ⟨W2, hW2⟩ : ∃ W2, W2 = W1.setRow w.heap.size c1 := ⟨_, rfl⟩
  have hg2 : W2.heap[w.heap.size]? = some (.cells c1 39 (0, 0)) := by rw [hW2]; exact setRow_heap W1 w.heap.size ROW c1 _ _ hg1
  have hcs2 : ∀ j v, cs[j]? = some v → W2.cell? ⟨b, j, none⟩ = some v := fun j v hj => by
    rw [hW2]
    exact cell_kept (w := W1) (setRow_other W1 w.heap.size b c1 (by omega)) (below_cell hbelow1 (hcs j v hj))
  have hdl : (cs.drop (i * 8)).length = (n - i) * 8 := by rw [List.length_drop, hcl, Nat.sub_mul]
  obtain ⟨c2, hc2⟩ : ∃ c2 : Array Value, c2 = (c1.toList.take ((i + 1) * 8) ++ cs.drop (i * 8) ++ c1.toList.drop ((i + 1) * 8 + (cs.drop (i * 8)).length)).toArray := ⟨_, rfl⟩
  have hcpB : ∀ (W : World), W.heap = W2.heap → ∀ ty dc sc, (Builtin.copy_ #[22, 22] ty #[.slice (some ⟨w.heap.size, (i + 1) * 8, none⟩) (n + 1 - (i + 1)) dc, .slice (some ⟨b, i * 8, none⟩) (n - i) sc]).run Try.prog W = .ok (goInt (Nat.min (n - i) (n + 1 - (i + 1)))) (W.setRow w.heap.size c2) := fun W hW ty dc sc => by
    rw [hc2]
    exact run_copy_rowN W 22 22 ty 39 8 w.heap.size ((i + 1) * 8) (n + 1 - (i + 1)) dc ⟨b, i * 8, none⟩ (n - i) sc c1 39 _ Try.underlying22 hsE (by rw [hW]; exact hg2) (by rw [hdl]; simp only [Nat.min_def]; split <;> omega) (fun j v hj => by
      rw [Addr.add_lit]
      rw [List.getElem?_drop] at hj
      have := hcs2 _ v hj
      simpa [World.cell?, hW] using this) (by rw [hdl]; have : c1.size = G * 8 := by simpa using hc1l
                                              omega) (fun v hv => h1c v (List.mem_of_mem_drop hv))
  have hc2t : c2.toList.take ((n + 1) * 8) = cs.take (i * 8) ++ vs ++ cs.drop (i * 8) := by
    have e1 : c1.toList.take ((i + 1) * 8) = cs.take (i * 8) ++ vs := by
      rw [hc1]
      simp only [List.toList_toArray]
      rw [List.take_append_of_le_length (by simp only [List.length_append, List.length_take, hRl, hvl]; omega), hRt]
      exact List.take_of_length_le (by simp only [List.length_append, List.length_take, hcl, hvl]; omega)
    rw [hc2]
    simp only [List.toList_toArray]
    rw [e1]
    have hl : (cs.take (i * 8) ++ vs ++ cs.drop (i * 8)).length = (n + 1) * 8 := by simp only [List.length_append, List.length_take, hdl, hcl, hvl]; omega
    rw [List.take_append_of_le_length (by omega)]
    exact List.take_of_length_le (by omega)
  have hc2s : c2.size = G * 8 := by
    rw [hc2]
    simp only [List.size_toArray, List.length_append, List.length_take, List.length_drop, hdl, hc1l]
    omega
  have hw1 : IntKind.i64.wrap ((i : Int) + 1) = (i : Int) + 1 := by rw [IntKind.wrap_i64]; omega
  have hb1 : (0 : Int) ≤ (i : Int) + 1 := by omega
  have hin : i ≤ n := by omega
  have htn : ((i : Int) + 1).toNat = i + 1 := by omega
  have hb3 : (i : Int) ≤ (n : Int) := by omega
  have hGi : ¬ (G = i) := by omega
  have hGim : ¬ (G = i + 1) := by omega
  have hci : ¬ (c = i) := by omega
  have hlast : ∀ W : World, W.heap = (W2.setRow w.heap.size c2).heap → W.os = w.os → W.tape = w.tape → W.output = w.output → W.heap[w.heap.size]? = some (.cells c2 39 (0, 0)) ∧ Below w.heap.size w W := fun W hW h1 h2 h3 => by
    have hsz : W1.heap.size ≤ W.heap.size := by rw [hW, hW2]; simp [World.setRow]
    refine ⟨by rw [hW]; exact setRow_heap W2 w.heap.size c1 c2 _ _ hg2, h1, h2, h3, Nat.le_trans hbelow1.size hsz, fun k hk => ?_⟩
    rw [hW, setRow_other W2 w.heap.size k c2 (by omega), hW2, setRow_other W1 w.heap.size k c1 (by omega)]
    exact hbelow1.block k hk
  clear hkk hik hold hROW hG hRs hRt hRl hc1 hc1l hvs1 hcs2 hdl hc2
  have mixed : Try.prog.follows .mixedOrders = true := by kernel_rfl
  go_enter Try.func56, Try.ntmps56
  go_wp2_with (first
    | (at_builtin; refine Lib.wpList_append_run _ rfl _ _ _ _ rfl _ _ rfl rfl _ _ (hrz _) ?_)
    | (at_builtin; refine wpList_copy_runI _ rfl _ _ 22 22 rfl _ _ rfl rfl (hcpA _ rfl _ _) ?_)
    | (at_builtin; refine wpList_copy_runI _ rfl _ _ 22 22 rfl _ _ rfl rfl (hcpB _ (by rw [hW2]; rfl) _ _ _) ?_))
  go_region_law_o (refine step_copy_runI rfl _ _ 22 22 rfl (.slice (some ⟨w.heap.size, (i + 1) * 8, none⟩) (n + 1 - (i + 1)) (G - (i + 1))) (.slice (some ⟨b, i * 8, none⟩) (n - i) (c - i)) (by simp [Act.eval, Act.put]) (by simp [Act.eval, Act.put]) (hcpB _ (by rw [hW2, hW1]; rfl) 3 (G - (i + 1)) (c - i)) ?_)
  go_wp2
  go_ret
  refine ⟨G, c2, rfl, ?_⟩
  obtain ⟨l1, l2⟩ := hlast (((w.alloc (.cells ROW 39)).drew.setRow w.heap.size c1).drew.setRow w.heap.size c2) (by rw [hW2, hW1]; rfl) rfl rfl rfl
  exact ⟨l1, hGn, hGm, hc2s, hc2t, l2⟩
/-- at the end: an append -/
theorem wpList_app3 {P : Program} {w : World} {a : Act} {ops : Array Oper} {rest : List Oper} {o : Oper} {Q : Exit → Act → World → Prop} (hgd : o.guard = none) (s x : Operand) {t e : TypeId} {z : Value} {size bytes : Nat}
    (ho : o.op = .call { callee := .builtin .append, args := #[s, x], argTypes := #[t, t] }) (E : Elem P t e z size bytes)
    (v : Value) (n : Nat) (xs : List Value) (hs : a.eval s = v) (hown : w.ownsRow 0 e size v n xs) (ad : Addr) (m c : Nat) (news : List Value) (hx : a.eval x = .slice (some ad) m c) (hl : news.length = m * size) (hnews : ∀ j u, news[j]? = some u → w.cell? (ad.add j) = some u) (h1 : ∀ u ∈ news, u.oneCell' = true)
    (h63 : n + m ≤ maxLen) (hbytes : (n + m) * bytes ≤ 140737488355328)
    (h : ∀ v' w', Grew 0 e size w v v' (n + m) (xs ++ news) w' → (∀ g, v.ownBlock = some g → v'.ownBlock = some g ∨ w'.heap[g]? = w.heap[g]?) → wpList P ops Q rest (a.put o.dst v') w') : wpList P ops Q (o :: rest) a w := by
  refine wpList_plain hgd fun _ hK => ?_
  obtain ⟨i, hi, hz, hsz, hby⟩ := info_parts E.info
  obtain ⟨v', w', hr, h2, h3⟩ := run_append_own3 (P := P) w 0 t o.type e i z size bytes E.ht hi hz hsz hby E.hzs E.pos v n xs hown ad m c news hl hnews h1 h63 hbytes (Nat.zero_le _)
  unfold Oper.wp execOp
  simp only [ho, resolve, invoke, builtin, Sem.run_bind, Sem.run_pure, Result.andThen_ok, List.map_toArray, List.map_cons, List.map_nil, hs, hx, hr]
  exact hK _ _ (h v' w' h2 h3)
set_option maxHeartbeats 4000000 in
set_option maxRecDepth 100000 in
theorem insE_end (n vb vc : Nat) (v : Value) (us vs : List Value) (w : World) (hown : w.ownsRow 0 39 8 v n us) (hbig : (n + 1) * 64 ≤ 140737488355328) (hvl : vs.length = 8)
    (hvs : ∀ j v, vs[j]? = some v → w.cell? ⟨vb, j, none⟩ = some v) (h1v : ∀ v ∈ vs, v.oneCell' = true) :
    Calls Try.prog 56 #[v, .int .i64 n, .slice (some ⟨vb, 0, none⟩) 1 vc] w fun e w' =>
      ∃ v', e = .returned v' ∧ Grew 0 39 8 w v v' (n + 1) (us ++ vs) w' ∧ ∀ g, v.ownBlock = some g → v'.ownBlock = some g ∨ w'.heap[g]? = w.heap[g]? := by
  obtain ⟨av, cv, hv, hcv⟩ := own_form hown
  have hcm : cv ≤ 9223372036854775807 := by
    rcases hown.2 with ⟨e1, _⟩ | ⟨g, cap, cur, e1, _, _, _, h5, _⟩
    · rw [hv] at e1; cases e1; omega
    · rw [hv] at e1; cases e1; unfold maxLen at h5; omega
  subst hv
  by_cases hcn : cv = n
  · subst hcn
    go_enter Try.func56, Try.ntmps56
    go_wp2_with (at_builtin; refine wpList_app3 rfl _ _ rfl elemE _ _ us rfl hown _ 1 vc vs rfl (by rw [hvl]) (fun j u hj => by rw [Addr.add_lit, Nat.zero_add]; exact hvs j u hj) h1v (by unfold maxLen; omega) hbig (fun v' w' hg hk => ?_))
    go_ret
    exact ⟨_, rfl, hg, hk⟩
  · have hcn' : ¬ n = cv := fun e => hcn e.symm
    go_enter Try.func56, Try.ntmps56
    go_wp2_with (at_builtin; refine wpList_app3 rfl _ _ rfl elemE _ n us rfl hown _ 1 vc vs rfl (by rw [hvl]) (fun j u hj => by rw [Addr.add_lit, Nat.zero_add]; exact hvs j u hj) h1v (by unfold maxLen; omega) hbig (fun v' w' hg hk => ?_))
    go_ret
    exact ⟨_, rfl, hg, hk⟩
/-- slices.Insert into a row of the call's own -/
theorem insE_any (w : World) (v xv : Value) (n i : Nat) (us vs : List Value) (hi : i ≤ n) (hbig : (n + 1) * 64 ≤ 140737488355328) (hown : w.ownsRow 0 39 8 v n us) (hox : w.ownsRow 0 39 8 xv 1 vs) (hne : v.ownBlock ≠ xv.ownBlock)
    (h1 : ∀ u ∈ us, u.oneCell' = true) (h1v : ∀ u ∈ vs, u.oneCell' = true) :
    Calls Try.prog 56 #[v, .int .i64 i, xv] w fun e w' => ∃ v', e = .returned v' ∧ Grew 0 39 8 w v v' (n + 1) (us.take (i * 8) ++ vs ++ us.drop (i * 8)) w' ∧ ∀ g, v.ownBlock = some g → v'.ownBlock = some g ∨ w'.heap[g]? = w.heap[g]? := by
  have hvl : vs.length = 8 := by have := hox.1; omega
  have hul := hown.1
  rcases hox.2 with ⟨_, h0⟩ | ⟨vb, vc, vcur, rfl, _, hvb, _, _, hvs, hvt⟩
  · omega
  have hcv : ∀ j u, vs[j]? = some u → w.cell? ⟨vb, j, none⟩ = some u := fun j u hj => by
    have := hox.cells (g := vb) rfl j u hj
    rwa [Addr.add_any, Nat.zero_add] at this
  by_cases hin : i = n
  · subst hin
    have := insE_end i vb vc v us vs w hown hbig hvl hcv h1v
    rw [List.take_of_length_le (by omega), List.drop_eq_nil_of_le (by omega), List.append_nil]
    exact this
  rcases hown.2 with ⟨_, h0⟩ | ⟨b, c, cur, rfl, _, hb, hnc, hcm, hcs, hct⟩
  · omega
  have hbv : vb ≠ b := fun e => hne (by rw [e]; rfl)
  have hcu : ∀ j u, us[j]? = some u → w.cell? ⟨b, j, none⟩ = some u := fun j u hj => by
    have := hown.cells (g := b) rfl j u hj
    rwa [Addr.add_any, Nat.zero_add] at this
  have hlen : cur.toList.length = c * 8 := by simpa using hcs
  by_cases hroom : n + 1 ≤ c
  · refine (insE_shift b n c i vb vc cur vs w (by omega) hroom (by unfold maxLen at hcm; omega) hbv hb hcs hvl hcv (by rw [hct]; exact h1) h1v 39 vcur.size (by simp [World.shape?, hvb]) (by simp [World.frozen?, hvb]) (by simp [World.frozen?, hvb])).mono ?_
    rintro e w' ⟨rfl, rfl⟩
    refine ⟨_, rfl, ⟨⟨by simp only [List.length_append, List.length_take, List.length_drop]; omega, .inr ⟨b, c, _, rfl, Nat.zero_le _, setRow_heap w.drew b cur _ _ _ hb, hroom, hcm, ?_, ?_⟩⟩, ⟨rfl, rfl, rfl, by simp [World.setRow], fun k hk hne' => setRow_other w.drew b k _ (fun e => hne' (by rw [e]; rfl))⟩, fun g hg => .inr hg⟩, fun g hg => .inl hg⟩
    · simp only [List.size_toArray, List.length_append, List.length_take, List.length_drop, hlen, hvl]; omega
    · have e1 : cur.toList.take (i * 8) = us.take (i * 8) := by rw [← hct, List.take_take, Nat.min_eq_left (by omega)]
      simp only [List.toList_toArray]
      rw [hct, e1, List.take_append_of_le_length (by simp only [List.length_append, List.length_take, List.length_drop, hvl]; omega)]
      exact List.take_of_length_le (by simp only [List.length_append, List.length_take, List.length_drop, hvl]; omega)
  · refine (insE_grow b n c i vb vc us vs w (by omega) hnc (by omega) hbig hul hvl hcu hcv h1 h1v).mono ?_
    rintro e w' ⟨G, cur', rfl, h2, h3, h4, h5, h6, h7⟩
    refine ⟨_, rfl, ⟨⟨by simp only [List.length_append, List.length_take, List.length_drop]; omega, .inr ⟨_, G, cur', rfl, Nat.zero_le _, h2, h3, h4, h5, h6⟩⟩, ⟨h7.os, h7.tape, h7.output, h7.size, fun k hk _ => h7.block k hk⟩, fun g hg => .inl (by cases hg; exact Nat.le_refl _)⟩, fun g hg => .inr (h7.block g (hown.lt g hg).2)⟩
end Go.Proofs.Ytfmefdeldgmhpaa


namespace Go.Proofs.Ytfmefdeldgmhpaa
set_option linter.unusedSimpArgs false
set_option linter.unusedVariables false
open Go.RowKit
theorem flat_take {sz : Nat} : ∀ (es : List (List D)) (i : Nat), (∀ x ∈ es, x.length = sz) → es.flatten.take (i * sz) = (es.take i).flatten ∧ es.flatten.drop (i * sz) = (es.drop i).flatten
  | [], i, _ => by simp
  | e :: es, 0, _ => by simp
  | e :: es, i + 1, h => by
    have hl := h e (by simp)
    obtain ⟨h1, h2⟩ := flat_take es i (fun x hx => h x (by simp [hx]))
    have he : (i + 1) * sz = e.length + i * sz := by rw [hl, Nat.add_mul]; omega
    simp only [List.flatten_cons, List.take_succ_cons, List.drop_succ_cons]
    rw [he, List.take_length_add_append, List.drop_length_add_append, h1, h2]
    exact ⟨rfl, rfl⟩
theorem callI_insE {B : Base} {s : St} {d : Option Tmp} {K : St → Prop} {n m i : Nat} {d0 : List V} {dd dx : List D} {es : List (List D)} {x : List D}
    (hd : (match d with | some t => decide (t < B.N) | none => true) = true) (hlk : lkB s.st n = some (.row 39 8 d0 (es.map dV))) (hlm : lkB s.st m = some (.tok 39 8 1)) (hnm : n ≠ m)
    (hi : i ≤ es.length) (hmax : es.length ≤ 1048576) (hel : ∀ y ∈ es, y.length = 8) (hx : x.length = 8)
    (hK : K ⟨put d (.ow s.nx 8 dd (es.take i ++ [x] ++ es.drop i)) s.tm, (s.nx, .tok 39 8 (es.take i ++ [x] ++ es.drop i).length) :: delB n s.st, s.nx + 1⟩) : callI Try.prog B 56 [.mo n, vI i, .ow m 8 dx [x]] d s K ⟨⟩ := by
  have hfl : (es.take i ++ [x] ++ es.drop i).length = es.length + 1 := by simp only [List.length_append, List.length_take, List.length_drop, List.length_cons, List.length_nil]; omega
  refine callI_regrow (el := 39) (sz := 8) (dd := dd) (fs := es.take i ++ [x] ++ es.drop i) (by kernel_rfl) hd hlk (by omega) (fun y hy => ?_) (fun E a us v ys hG hv h1 hown hR hone => ?_) hK
  · simp only [List.mem_append, List.mem_singleton] at hy
    rcases hy with (hy | rfl) | hy
    · exact hel y (List.mem_of_mem_take hy)
    · exact hx
    · exact hel y (List.mem_of_mem_drop hy)
  · simp only [RVL] at hv
    obtain ⟨v', r, rfl, hv1, u2, r2, rfl, hv2, xv, r3, rfl, hv3, rfl⟩ := hv
    simp only [RV, RD] at hv1 hv2
    subst hv2
    obtain rfl : v' = v := by have := hv1.1; rw [h1] at this; exact (Option.some.inj this).symm
    have hv3' : E.η m = some xv ∧ RD E.F E.w (.sl 8 dx [x]) xv := by simpa only [RV] using hv3
    obtain ⟨v2, us2, g1, g2, g3⟩ := hG.1.st m _ hlm
    obtain rfl : v2 = xv := by rw [hv3'.1] at g1; exact (Option.some.inj g1).symm
    obtain ⟨c1, c2, c3, _⟩ := own_cells (es := [x]) hv3'.2 g2
    rw [List.length_map] at hown
    have hys : RDL E.F E.w es.flatten ys := RVL.to_data (by rw [← dV_flat]; exact hR)
    have hb2 : ∃ b, hb v2 = some b := by
      rcases g2.2 with ⟨_, h0⟩ | ⟨g, cap, cur, rfl, _⟩
      · omega
      · exact ⟨g, rfl⟩
    obtain ⟨a1, cc1, e1, _⟩ := own_form hown
    obtain ⟨a2, cc2, e2, _⟩ := own_form g2
    refine (insE_any E.w v' v2 es.length i ys us2 hi (by omega) hown g2 ?_ hone c2).mono ?_
    · rw [ownBlock_hb e1, ownBlock_hb e2]
      obtain ⟨b, hb2⟩ := hb2
      intro e
      exact hG.1.dist n m _ _ b v' v2 hnm hlk hlm h1 hv3'.1 (e.trans hb2) hb2
    · rintro e w' ⟨v3, rfl, k1, k2⟩
      refine ⟨v3, _, rfl, by rw [hfl]; exact k1, k2, ?_, ?_⟩
      · obtain ⟨f1, f2⟩ := flat_take (sz := 8) es i hel
        have t1 := RDL.take (i * 8) hys
        have t2 := RDL.drop (i * 8) hys
        rw [f1] at t1
        rw [f2] at t2
        have := RDL.append (RDL.append t1 c1) t2
        simpa using this
      · intro u hu
        simp only [List.mem_append] at hu
        rcases hu with (hu | hu) | hu
        · exact hone u (List.mem_of_mem_take hu)
        · exact c2 u hu
        · exact hone u (List.mem_of_mem_drop hu)
def errA (l : List Ent) (x : Ent) : Int := if checkL l ≠ 0 then checkL l else if validE x = false then 330 else if (l.any fun y => y.no == x.no) = true then 181 else if l.length = 1024 then 2 else 0
def addP (l : List Ent) (x : Ent) : List Ent := l.filter (fun y => decide (y.no < x.no)) ++ [x] ++ l.filter (fun y => !decide (y.no < x.no))
def addL (l : List Ent) (x : Ent) : List Ent := if errA l x = 0 then addP l x else []
theorem lbE_parts : ∀ {l : List Ent} (no : Int), l.Pairwise (fun x y => x.no < y.no) → l.filter (fun y => decide (y.no < no)) = l.take (lbE l no) ∧ l.filter (fun y => !decide (y.no < no)) = l.drop (lbE l no)
  | [], no, _ => by simp [lbE]
  | x :: l, no, hp => by
    obtain ⟨h1, h2⟩ := List.pairwise_cons.1 hp
    obtain ⟨i1, i2⟩ := lbE_parts no h2
    unfold lbE at *
    by_cases h : x.no < no
    · rw [List.takeWhile_cons, if_pos (by simpa using h)]
      simp [h, i1, i2]
    · rw [List.takeWhile_cons, if_neg (by simpa using h)]
      have hall : ∀ y ∈ l, ¬ y.no < no := fun y hy => by have := h1 y hy; omega
      refine ⟨?_, ?_⟩
      · simp only [List.length_nil, List.take_zero]
        rw [List.filter_eq_nil_iff]
        intro y hy
        rcases List.mem_cons.1 hy with rfl | hy
        · simpa using h
        · simpa using hall y hy
      · simp only [List.length_nil, List.drop_zero]
        rw [List.filter_eq_self]
        intro y hy
        rcases List.mem_cons.1 hy with rfl | hy
        · simpa using h
        · simpa using hall y hy
theorem foundE_any {l : List Ent} (no : Int) (hp : l.Pairwise (fun x y => x.no < y.no)) : foundE l no = l.any fun y => y.no == no := by
  induction l with
  | nil => rfl
  | cons x l ih =>
    obtain ⟨h1, h2⟩ := List.pairwise_cons.1 hp
    have ih := ih h2
    unfold foundE lbE at *
    by_cases h : x.no < no
    · rw [List.takeWhile_cons, if_pos (by simpa using h), List.any_cons, show (x.no == no) = false by simp; omega, Bool.false_or, ← ih]
      simp
    · rw [List.takeWhile_cons, if_neg (by simpa using h), List.any_cons]
      have hall : (l.any fun y => y.no == no) = false := by
        rw [List.any_eq_false]
        intro y hy
        have := h1 y hy
        simp; omega
      rw [hall]
      simp
theorem lbE_le (l : List Ent) (no : Int) : lbE l no ≤ l.length := by
  unfold lbE
  induction l with
  | nil => simp
  | cons x l ih => rw [List.takeWhile_cons]; split <;> simp; exact ih
end Go.Proofs.Ytfmefdeldgmhpaa

