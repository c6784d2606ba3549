import Derived.Test.YthidfoohhhkobaaH13
import Derived.Test.YthidfoohhhkobaaH11
namespace Go.Proofs.Ythidfoohhhkobaa
open Go.RowKit Go.Lib
set_option linter.unusedVariables false
set_option linter.unusedSimpArgs false
theorem zeroH_len (k : Nat) : (Builtin.zeroCells zHandV.cells k).size = k * 42 := by
  have h : zHandV.cells.size = 42 := by kernel_rfl
  simp [Builtin.zeroCells, h]
set_option maxHeartbeats 4000000 in
set_option maxRecDepth 100000 in
theorem insH_grow (b n c i vb vc : Nat) (cs vs : List Value) (w : World) (hi : i < n) (hnc : n ≤ c) (hroom : c < n + 1) (hbig : (n + 1) * 112 ≤ 140737488355328)
    (hcl : cs.length = n * 42) (hvl : vs.length = 42)
    (hcs : ∀ j v, cs[j]? = some v → w.cell? ⟨b, j, none⟩ = some v)
    (hvs : ∀ j v, vs[j]? = some v → w.cell? ⟨vb, j, none⟩ = some v) (h1c : ∀ v ∈ cs, v.oneCell' = true) (h1v : ∀ v ∈ vs, v.oneCell' = true) :
    Calls Try.prog 62 #[.slice (some ⟨b, 0, none⟩) n c, .int .i64 i, .slice (some ⟨vb, 0, none⟩) 1 vc] w fun e w' =>
      ∃ G cur, e = .returned (.slice (some ⟨w.heap.size, 0, none⟩) (n + 1) G) ∧ w'.heap[w.heap.size]? = some (.cells cur 46 (0, 0)) ∧ n + 1 ≤ G ∧ G ≤ maxLen ∧ cur.size = G * 42 ∧ cur.toList.take ((n + 1) * 42) = cs.take (i * 42) ++ vs ++ cs.drop (i * 42) ∧ Below w.heap.size w w' := by
  obtain ⟨i0, hi0, hz0, hzs, hzb⟩ := info_parts elemH.info
  have hz2 : ¬ ((i : Int) = (n : Int)) := by omega
  have hz3 : (c : Int) < (n : Int) + 1 := by omega
  have hsE : (Try.prog.info? 46).map (·.size) = some 42 := by kernel_rfl
  have hbw : b < w.heap.size := block_lt_of_cell (hcs 0 _ (List.getElem?_eq_getElem (by omega)))
  have hvw : vb < w.heap.size := block_lt_of_cell (hvs 0 _ (List.getElem?_eq_getElem (by omega)))
  have hkk : (n : Int) + 1 - (i : Int) = ((n + 1 - i : Nat) : Int) := by omega
  have hik : i + (n + 1 - i) = n + 1 := by omega
  have hold : (Builtin.firstCells i0.size i (.slice (some ⟨b, 0, none⟩) i c)).run Try.prog w.drew = .ok (cs.take (i * 42)).toArray w.drew := by
    rw [hzs]
    exact run_firstCells_some w.drew 42 i ⟨b, 0, none⟩ i c (cs.take (i * 42)) (by rw [List.length_take]; omega) (fun j v hj => by
      rw [Addr.add_lit, Nat.zero_add]
      rw [List.getElem?_take] at hj
      split at hj
      · exact hcs j v hj
      · cases hj)
  have hrz : ∀ ty, (Builtin.append_ #[32, 3] ty #[.slice (some ⟨b, 0, none⟩) i c, .int .i64 ((n : Int) + 1 - (i : Int))]).run Try.prog w =
      .ok (.slice (some ⟨w.heap.size, 0, none⟩) (n + 1) (grownCap w (n + 1) c 46)) (w.drew.alloc (.cells ((cs.take (i * 42)).toArray ++ Builtin.zeroCells zHandV.cells (n + 1 - i) ++ Builtin.zeroCells zHandV.cells (grownCap w (n + 1) c 46 - (n + 1))) 46)) := fun ty => by
    have h := Lib.run_append_grow_zeros w 32 3 ty 46 i0 _ .i64 .i64 Try.underlying32 Try.underlying3 hi0 hz0 (some ⟨b, 0, none⟩) i c (cs.take (i * 42)) hold (n + 1 - i) (by omega) (by omega) (by omega) (by omega) (by rw [hzb]; omega) (by rw [hzb, hik]; exact growslice_fits hroom hbig)
    rw [hik] at h
    rw [hkk]
    exact h
  obtain ⟨G, hG⟩ : ∃ G, G = grownCap w (n + 1) c 46 := ⟨_, rfl⟩
  obtain ⟨ROW, hROW⟩ : ∃ ROW : Array Value, ROW = (cs.take (i * 42)).toArray ++ Builtin.zeroCells zHandV.cells (n + 1 - i) ++ Builtin.zeroCells zHandV.cells (G - (n + 1)) := ⟨_, rfl⟩
  rw [← hG] at hrz
  rw [← hROW] at hrz
  have hGn : n + 1 ≤ G := by rw [hG]; exact grownCap_ge w _ _ _
  have hGm : G ≤ maxLen := by rw [hG]; exact grownCap_le_maxLen w (n + 1) c 46 (by unfold maxLen; omega)
  have hG63 : G ≤ 9223372036854775807 := by
    have := hGm
    unfold maxLen at this
    omega
  have hRs : ROW.size = G * 42 := by
    rw [hROW]
    simp only [Array.size_append, zeroH_len, List.size_toArray, List.length_take, hcl]
    omega
  have hRt : ROW.toList.take (i * 42) = cs.take (i * 42) := by
    rw [hROW]
    simp only [Array.toList_append, List.append_assoc]
    rw [List.take_append_of_le_length (by rw [List.length_take]; omega), List.take_take, Nat.min_self]
  have hRl : ROW.toList.length = G * 42 := by simpa using hRs
  obtain ⟨W1, hW1⟩ : ∃ W1, W1 = w.drew.alloc (.cells ROW 46) := ⟨_, rfl⟩
  rw [← hW1] at hrz
  have hg1 : W1.heap[w.heap.size]? = some (.cells ROW 46 (0, 0)) := by rw [hW1]; exact heap_alloc_new w.drew _
  have hbelow1 : Below w.heap.size w W1 := by
    rw [hW1]
    have h := (Below.refl w.heap.size w.drew).alloc (Nat.le_refl _) (.cells ROW 46)
    exact ⟨h.os, h.tape, h.output, h.size, h.block⟩
  obtain ⟨c1, hc1⟩ : ∃ c1 : Array Value, c1 = (ROW.toList.take (i * 42) ++ vs ++ ROW.toList.drop (i * 42 + vs.length)).toArray := ⟨_, rfl⟩
  have hc1l : c1.toList.length = G * 42 := by
    rw [hc1]
    simp only [List.toList_toArray, List.length_append, List.length_take, List.length_drop, hRl, hvl]
    have : i * 42 + 42 ≤ G * 42 := by omega
    omega
  have hvs1 : ∀ j v, vs[j]? = some v → W1.cell? ⟨vb, j, none⟩ = some v := fun j v hj => below_cell hbelow1 (hvs j v hj)
  have hcpA : ∀ (W : World), W.heap = W1.heap → ∀ ty dc, (Builtin.copy_ #[32, 32] ty #[.slice (some ⟨w.heap.size, i * 42, none⟩) (n + 1 - i) dc, .slice (some ⟨vb, 0, none⟩) 1 vc]).run Try.prog W = .ok (goInt (Nat.min 1 (n + 1 - i))) (W.setRow w.heap.size c1) := fun W hW ty dc => by
    rw [hc1]
    exact run_copy_rowN W 32 32 ty 46 42 w.heap.size (i * 42) (n + 1 - i) dc ⟨vb, 0, none⟩ 1 vc ROW 46 vs Try.underlying32 hsE (by rw [hW]; exact hg1) (by rw [hvl]; simp only [Nat.min_def]; split <;> omega) (fun j v hj => by rw [Addr.add_lit, Nat.zero_add]; have := hvs1 j v hj; simpa [World.cell?, hW] using this) (by rw [hvl, hRs]; omega) h1v
  obtain ⟨W2, hW2⟩ : ∃ W2, W2 = W1.setRow w.heap.size c1 := ⟨_, rfl⟩
  have hg2 : W2.heap[w.heap.size]? = some (.cells c1 46 (0, 0)) := by rw [hW2]; exact setRow_heap W1 w.heap.size ROW c1 _ _ hg1
  have hcs2 : ∀ j v, cs[j]? = some v → W2.cell? ⟨b, j, none⟩ = some v := fun j v hj => by
    rw [hW2]
    exact cell_kept (w := W1) (setRow_other W1 w.heap.size b c1 (by omega)) (below_cell hbelow1 (hcs j v hj))
  have hdl : (cs.drop (i * 42)).length = (n - i) * 42 := by rw [List.length_drop, hcl, Nat.sub_mul]
  obtain ⟨c2, hc2⟩ : ∃ c2 : Array Value, c2 = (c1.toList.take ((i + 1) * 42) ++ cs.drop (i * 42) ++ c1.toList.drop ((i + 1) * 42 + (cs.drop (i * 42)).length)).toArray := ⟨_, rfl⟩
  have hcpB : ∀ (W : World), W.heap = W2.heap → ∀ ty dc sc, (Builtin.copy_ #[32, 32] ty #[.slice (some ⟨w.heap.size, (i + 1) * 42, none⟩) (n + 1 - (i + 1)) dc, .slice (some ⟨b, i * 42, none⟩) (n - i) sc]).run Try.prog W = .ok (goInt (Nat.min (n - i) (n + 1 - (i + 1)))) (W.setRow w.heap.size c2) := fun W hW ty dc sc => by
    rw [hc2]
    exact run_copy_rowN W 32 32 ty 46 42 w.heap.size ((i + 1) * 42) (n + 1 - (i + 1)) dc ⟨b, i * 42, none⟩ (n - i) sc c1 46 _ Try.underlying32 hsE (by rw [hW]; exact hg2) (by rw [hdl]; simp only [Nat.min_def]; split <;> omega) (fun j v hj => by
      rw [Addr.add_lit]
      rw [List.getElem?_drop] at hj
      have := hcs2 _ v hj
      simpa [World.cell?, hW] using this) (by rw [hdl]; have : c1.size = G * 42 := by simpa using hc1l
                                              omega) (fun v hv => h1c v (List.mem_of_mem_drop hv))
  have hc2t : c2.toList.take ((n + 1) * 42) = cs.take (i * 42) ++ vs ++ cs.drop (i * 42) := by
    have e1 : c1.toList.take ((i + 1) * 42) = cs.take (i * 42) ++ vs := by
      rw [hc1]
      simp only [List.toList_toArray]
      rw [List.take_append_of_le_length (by simp only [List.length_append, List.length_take, hRl, hvl]; omega), hRt]
      exact List.take_of_length_le (by simp only [List.length_append, List.length_take, hcl, hvl]; omega)
    rw [hc2]
    simp only [List.toList_toArray]
    rw [e1]
    have hl : (cs.take (i * 42) ++ vs ++ cs.drop (i * 42)).length = (n + 1) * 42 := by simp only [List.length_append, List.length_take, hdl, hcl, hvl]; omega
    rw [List.take_append_of_le_length (by omega)]
    exact List.take_of_length_le (by omega)
  have hc2s : c2.size = G * 42 := by
    rw [hc2]
    simp only [List.size_toArray, List.length_append, List.length_take, List.length_drop, hdl, hc1l]
    omega
  have hw1 : IntKind.i64.wrap ((i : Int) + 1) = (i : Int) + 1 := by rw [IntKind.wrap_i64]; omega
  have hb1 : (0 : Int) ≤ (i : Int) + 1 := by omega
  have hin : i ≤ n := by omega
  have htn : ((i : Int) + 1).toNat = i + 1 := by omega
  have hb3 : (i : Int) ≤ (n : Int) := by omega
  have hGi : ¬ (G = i) := by omega
  have hGim : ¬ (G = i + 1) := by omega
  have hci : ¬ (c = i) := by omega
  have hlast : ∀ W : World, W.heap = (W2.setRow w.heap.size c2).heap → W.os = w.os → W.tape = w.tape → W.output = w.output → W.heap[w.heap.size]? = some (.cells c2 46 (0, 0)) ∧ Below w.heap.size w W := fun W hW h1 h2 h3 => by
    have hsz : W1.heap.size ≤ W.heap.size := by rw [hW, hW2]; simp [World.setRow]
    refine ⟨by rw [hW]; exact setRow_heap W2 w.heap.size c1 c2 _ _ hg2, h1, h2, h3, Nat.le_trans hbelow1.size hsz, fun k hk => ?_⟩
    rw [hW, setRow_other W2 w.heap.size k c2 (by omega), hW2, setRow_other W1 w.heap.size k c1 (by omega)]
    exact hbelow1.block k hk
  clear hkk hik hold hROW hG hRs hRt hRl hc1 hc1l hvs1 hcs2 hdl hc2
  have mixed : Try.prog.follows .mixedOrders = true := by kernel_rfl
  go_enter Try.func62, Try.ntmps62
  go_wp2_with (first
    | (at_builtin; refine Lib.wpList_append_run _ rfl _ _ _ _ rfl _ _ rfl rfl _ _ (hrz _) ?_)
    | (at_builtin; refine wpList_copy_runI _ rfl _ _ 32 32 rfl _ _ rfl rfl (hcpA _ rfl _ _) ?_)
    | (at_builtin; refine wpList_copy_runI _ rfl _ _ 32 32 rfl _ _ rfl rfl (hcpB _ (by rw [hW2]; rfl) _ _ _) ?_))
  go_region_law_o (refine step_copy_runI rfl _ _ 32 32 rfl (.slice (some ⟨w.heap.size, (i + 1) * 42, none⟩) (n + 1 - (i + 1)) (G - (i + 1))) (.slice (some ⟨b, i * 42, none⟩) (n - i) (c - i)) (by simp [Act.eval, Act.put]) (by simp [Act.eval, Act.put]) (hcpB _ (by rw [hW2, hW1]; rfl) 3 (G - (i + 1)) (c - i)) ?_)
  go_wp2
  go_ret
  refine ⟨G, c2, rfl, ?_⟩
  obtain ⟨l1, l2⟩ := hlast (((w.alloc (.cells ROW 46)).drew.setRow w.heap.size c1).drew.setRow w.heap.size c2) (by rw [hW2, hW1]; rfl) rfl rfl rfl
  exact ⟨l1, hGn, hGm, hc2s, hc2t, l2⟩
theorem wpList_app3 {P : Program} {w : World} {a : Act} {ops : Array Oper} {rest : List Oper} {o : Oper} {Q : Exit → Act → World → Prop} (hgd : o.guard = none) (s x : Operand) {t e : TypeId} {z : Value} {size bytes : Nat}
    (ho : o.op = .call { callee := .builtin .append, args := #[s, x], argTypes := #[t, t] }) (E : Elem P t e z size bytes)
    (v : Value) (n : Nat) (xs : List Value) (hs : a.eval s = v) (hown : w.ownsRow 0 e size v n xs) (ad : Addr) (m c : Nat) (news : List Value) (hx : a.eval x = .slice (some ad) m c) (hl : news.length = m * size) (hnews : ∀ j u, news[j]? = some u → w.cell? (ad.add j) = some u) (h1 : ∀ u ∈ news, u.oneCell' = true)
    (h63 : n + m ≤ maxLen) (hbytes : (n + m) * bytes ≤ 140737488355328)
    (h : ∀ v' w', Grew 0 e size w v v' (n + m) (xs ++ news) w' → (∀ g, v.ownBlock = some g → v'.ownBlock = some g ∨ w'.heap[g]? = w.heap[g]?) → wpList P ops Q rest (a.put o.dst v') w') : wpList P ops Q (o :: rest) a w := by
  refine wpList_plain hgd fun _ hK => ?_
  obtain ⟨i, hi, hz, hsz, hby⟩ := info_parts E.info
  obtain ⟨v', w', hr, h2, h3⟩ := run_append_own3 (P := P) w 0 t o.type e i z size bytes E.ht hi hz hsz hby E.hzs E.pos v n xs hown ad m c news hl hnews h1 h63 hbytes (Nat.zero_le _)
  unfold Oper.wp execOp
  simp only [ho, resolve, invoke, builtin, Sem.run_bind, Sem.run_pure, Result.andThen_ok, List.map_toArray, List.map_cons, List.map_nil, hs, hx, hr]
  exact hK _ _ (h v' w' h2 h3)
set_option maxHeartbeats 4000000 in
set_option maxRecDepth 100000 in
theorem insH_end (n vb vc : Nat) (v : Value) (us vs : List Value) (w : World) (hown : w.ownsRow 0 46 42 v n us) (hbig : (n + 1) * 112 ≤ 140737488355328) (hvl : vs.length = 42)
    (hvs : ∀ j v, vs[j]? = some v → w.cell? ⟨vb, j, none⟩ = some v) (h1v : ∀ v ∈ vs, v.oneCell' = true) :
    Calls Try.prog 62 #[v, .int .i64 n, .slice (some ⟨vb, 0, none⟩) 1 vc] w fun e w' =>
      ∃ v', e = .returned v' ∧ Grew 0 46 42 w v v' (n + 1) (us ++ vs) w' ∧ ∀ g, v.ownBlock = some g → v'.ownBlock = some g ∨ w'.heap[g]? = w.heap[g]? := by
  obtain ⟨av, cv, hv, hcv⟩ := own_form hown
  have hcm : cv ≤ 9223372036854775807 := by
    rcases hown.2 with ⟨e1, _⟩ | ⟨g, cap, cur, e1, _, _, _, h5, _⟩
    · rw [hv] at e1; cases e1; omega
    · rw [hv] at e1; cases e1; unfold maxLen at h5; omega
  subst hv
  by_cases hcn : cv = n
  · subst hcn
    go_enter Try.func62, Try.ntmps62
    go_wp2_with (at_builtin; refine wpList_app3 rfl _ _ rfl elemH _ _ us rfl hown _ 1 vc vs rfl (by rw [hvl]) (fun j u hj => by rw [Addr.add_lit, Nat.zero_add]; exact hvs j u hj) h1v (by unfold maxLen; omega) hbig (fun v' w' hg hk => ?_))
    go_ret
    exact ⟨_, rfl, hg, hk⟩
  · have hcn' : ¬ n = cv := fun e => hcn e.symm
    go_enter Try.func62, Try.ntmps62
    go_wp2_with (at_builtin; refine wpList_app3 rfl _ _ rfl elemH _ n us rfl hown _ 1 vc vs rfl (by rw [hvl]) (fun j u hj => by rw [Addr.add_lit, Nat.zero_add]; exact hvs j u hj) h1v (by unfold maxLen; omega) hbig (fun v' w' hg hk => ?_))
    go_ret
    exact ⟨_, rfl, hg, hk⟩
theorem insH_any (w : World) (v xv : Value) (n i : Nat) (us vs : List Value) (hi : i ≤ n) (hbig : (n + 1) * 112 ≤ 140737488355328) (hown : w.ownsRow 0 46 42 v n us) (hox : w.ownsRow 0 46 42 xv 1 vs) (hne : v.ownBlock ≠ xv.ownBlock)
    (h1 : ∀ u ∈ us, u.oneCell' = true) (h1v : ∀ u ∈ vs, u.oneCell' = true) :
    Calls Try.prog 62 #[v, .int .i64 i, xv] w fun e w' => ∃ v', e = .returned v' ∧ Grew 0 46 42 w v v' (n + 1) (us.take (i * 42) ++ vs ++ us.drop (i * 42)) w' ∧ ∀ g, v.ownBlock = some g → v'.ownBlock = some g ∨ w'.heap[g]? = w.heap[g]? := by
  have hvl : vs.length = 42 := by have := hox.1; omega
  have hul := hown.1
  rcases hox.2 with ⟨_, h0⟩ | ⟨vb, vc, vcur, rfl, _, hvb, _, _, hvs, hvt⟩
  · omega
  have hcv : ∀ j u, vs[j]? = some u → w.cell? ⟨vb, j, none⟩ = some u := fun j u hj => by
    have := hox.cells (g := vb) rfl j u hj
    rwa [Addr.add_any, Nat.zero_add] at this
  by_cases hin : i = n
  · subst hin
    have := insH_end i vb vc v us vs w hown hbig hvl hcv h1v
    rw [List.take_of_length_le (by omega), List.drop_eq_nil_of_le (by omega), List.append_nil]
    exact this
  rcases hown.2 with ⟨_, h0⟩ | ⟨b, c, cur, rfl, _, hb, hnc, hcm, hcs, hct⟩
  · omega
  have hbv : vb ≠ b := fun e => hne (by rw [e]; rfl)
  have hcu : ∀ j u, us[j]? = some u → w.cell? ⟨b, j, none⟩ = some u := fun j u hj => by
    have := hown.cells (g := b) rfl j u hj
    rwa [Addr.add_any, Nat.zero_add] at this
  have hlen : cur.toList.length = c * 42 := by simpa using hcs
  by_cases hroom : n + 1 ≤ c
  · refine (insH_shift b n c i vb vc cur vs w (by omega) hroom (by unfold maxLen at hcm; omega) hbv hb hcs hvl hcv (by rw [hct]; exact h1) h1v 46 vcur.size (by simp [World.shape?, hvb]) (by simp [World.frozen?, hvb]) (by simp [World.frozen?, hvb])).mono ?_
    rintro e w' ⟨rfl, rfl⟩
    refine ⟨_, rfl, ⟨⟨by simp only [List.length_append, List.length_take, List.length_drop]; omega, .inr ⟨b, c, _, rfl, Nat.zero_le _, setRow_heap w.drew b cur _ _ _ hb, hroom, hcm, ?_, ?_⟩⟩, ⟨rfl, rfl, rfl, by simp [World.setRow], fun k hk hne' => setRow_other w.drew b k _ (fun e => hne' (by rw [e]; rfl))⟩, fun g hg => .inr hg⟩, fun g hg => .inl hg⟩
    · simp only [List.size_toArray, List.length_append, List.length_take, List.length_drop, hlen, hvl]; omega
    · have e1 : cur.toList.take (i * 42) = us.take (i * 42) := by rw [← hct, List.take_take, Nat.min_eq_left (by omega)]
      simp only [List.toList_toArray]
      rw [hct, e1, List.take_append_of_le_length (by simp only [List.length_append, List.length_take, List.length_drop, hvl]; omega)]
      exact List.take_of_length_le (by simp only [List.length_append, List.length_take, List.length_drop, hvl]; omega)
  · refine (insH_grow b n c i vb vc us vs w (by omega) hnc (by omega) hbig hul hvl hcu hcv h1 h1v).mono ?_
    rintro e w' ⟨G, cur', rfl, h2, h3, h4, h5, h6, h7⟩
    refine ⟨_, rfl, ⟨⟨by simp only [List.length_append, List.length_take, List.length_drop]; omega, .inr ⟨_, G, cur', rfl, Nat.zero_le _, h2, h3, h4, h5, h6⟩⟩, ⟨h7.os, h7.tape, h7.output, h7.size, fun k hk _ => h7.block k hk⟩, fun g hg => .inl (by cases hg; exact Nat.le_refl _)⟩, fun g hg => .inr (h7.block g (hown.lt g hg).2)⟩

open Go.RowKit
set_option maxRecDepth 100000
set_option maxHeartbeats 4000000
theorem cmpB_self : ∀ a : List UInt8, cmpB a a = 0
  | [] => rfl
  | x :: a => by
    have h : ¬ x < x := by simp [UInt8.lt_iff_toNat_lt]
    have := cmpB_self a
    unfold cmpB at this ⊢
    rw [Lib.compareBytes, if_neg h, if_neg h, this]
theorem cmpB_zero : ∀ {a b : List UInt8}, cmpB a b = 0 → a = b
  | [], [], _ => rfl
  | [], _ :: _, h => by unfold cmpB at h; rw [Lib.compareBytes] at h; omega
  | _ :: _, [], h => by unfold cmpB at h; rw [Lib.compareBytes] at h; omega
  | x :: a, y :: b, h => by
    unfold cmpB at h
    rw [Lib.compareBytes] at h
    split at h
    · omega
    · split at h
      · omega
      · rename_i h1 h2
        have : x = y := by
          simp only [UInt8.lt_iff_toNat_lt] at h1 h2
          exact UInt8.toNat_inj.1 (by omega)
        rw [this, cmpB_zero (a := a) (b := b) h]
theorem cmpB_tri : ∀ (a b : List UInt8), cmpB a b = -cmpB b a
  | [], [] => rfl
  | [], _ :: _ => rfl
  | _ :: _, [] => rfl
  | x :: a, y :: b => by
    have := cmpB_tri a b
    unfold cmpB at this ⊢
    rw [Lib.compareBytes, Lib.compareBytes]
    simp only [UInt8.lt_iff_toNat_lt]
    split
    · rw [if_neg (by omega)]
    · split
      · rfl
      · exact this
theorem cmpB_trans : ∀ {a b c : List UInt8}, cmpB a b < 0 → cmpB b c < 0 → cmpB a c < 0
  | [], [], _, h, _ => by unfold cmpB at h; rw [Lib.compareBytes] at h; omega
  | _ :: _, [], _, h, _ => by unfold cmpB at h; rw [Lib.compareBytes] at h; omega
  | _, _ :: _, [], _, h => by unfold cmpB at h; rw [Lib.compareBytes] at h; omega
  | [], _ :: _, _ :: _, _, _ => by unfold cmpB; rw [Lib.compareBytes]; omega
  | x :: a, y :: b, z :: c, h1, h2 => by
    have ih := @cmpB_trans a b c
    unfold cmpB at h1 h2 ih ⊢
    rw [Lib.compareBytes] at h1 h2 ⊢
    simp only [UInt8.lt_iff_toNat_lt] at h1 h2 ⊢
    split at h1
    · split at h2
      · rw [if_pos (by omega)]; omega
      · split at h2
        · omega
        · rw [if_pos (by omega)]; omega
    · split at h1
      · omega
      · split at h2
        · rw [if_pos (by omega)]; omega
        · split at h2
          · omega
          · rw [if_neg (by omega), if_neg (by omega)]
            exact ih h1 h2
def befB (x y : Hd) : Bool := decide (cmpB (msg x) (msg y) < 0)
def ordH (l : List Hd) : Prop := l.Pairwise (fun x y => befB x y = true)
theorem bef_trans {x y z : Hd} (h1 : befB x y = true) (h2 : befB y z = true) : befB x z = true :=
  decide_eq_true (cmpB_trans (of_decide_eq_true h1) (of_decide_eq_true h2))
def lbH (l : List Hd) (h : Hd) : Nat := (l.takeWhile (fun y => befB y h)).length
def foundH (l : List Hd) (h : Hd) : Bool := decide (lbH l h < l.length) && (cmpB (msg (l.getD (lbH l h) default)) (msg h) == 0)
theorem lbH_le (l : List Hd) (h : Hd) : lbH l h ≤ l.length := by
  unfold lbH
  exact (List.takeWhile_prefix _).length_le
theorem getD_atH {l : List Hd} {k : Nat} (h : k < l.length) : l.getD k default = l[k] := by simp [List.getD, h]
theorem lbH_of {l : List Hd} {h : Hd} : ∀ {i : Nat}, i ≤ l.length → (∀ k, k < i → befB (l.getD k default) h = true) → (i < l.length → befB (l.getD i default) h = false) → lbH l h = i := by
  unfold lbH
  induction l with
  | nil => intro i hi _ _; simp at hi; simp [hi]
  | cons x l ih =>
    intro i hi h1 h2
    cases i with
    | zero =>
      have := h2 (by simp)
      simp only [List.getD_cons_zero] at this
      rw [List.takeWhile_cons, if_neg (by simp [this])]
      rfl
    | succ i =>
      have h0 := h1 0 (by omega)
      simp only [List.getD_cons_zero] at h0
      rw [List.takeWhile_cons, if_pos h0, List.length_cons, ih (i := i) (by simpa using hi) (fun k hk => by simpa using h1 (k + 1) (by omega)) (fun h => by simpa using h2 (by simpa using h))]
theorem mid_run {i j m : Nat} (h : i + j ≤ 1048576) (hm : m = (i + j) / 2) : IntKind.i64.wrap ((IntKind.u64.wrap ((i : Int) + (j : Int))).fdiv (2 ^ min 1 IntKind.u64.bits)) = (m : Int) := by
  have h1 : IntKind.u64.wrap ((i : Int) + (j : Int)) = ((i + j : Nat) : Int) := by
    rw [IntKind.wrap_u64]; omega
  rw [h1, show (2 : Int) ^ min 1 IntKind.u64.bits = 2 by decide, Int.fdiv_eq_ediv_of_nonneg _ (by decide), hm, IntKind.wrap_i64]
  omega
def fnC : A := .one (.c (.func (.func 55) #[] #[]))
abbrev handsD (l : List Hd) : D := .sl 42 (handD default) (l.map handD)
theorem bsH_spec (l : List Hd) (h : Hd) (hl : l.length ≤ 4096) (hh : hOk h) (ho : ∀ x ∈ l, hOk x) (hp : ordH l) : Spec Try.prog 61 [.one (handsD l), .agg (handD h), fnC] (.rt [aI (lbH l h), aB (foundH l h)]) := by
  unfold fnC
  refine spec_of T_ok Try.func61 (by dsimp only [Try.f61]) rfl rfl (by simp) fun w F => ?_
  repeat' (first | (with_reducible refine aw_seq ?_) | (with_reducible refine aw_block ?_) | ((((with_reducible refine aw_regionA T_ok ?_ ?_); kernel_rfl)); simp only [↓avP, avQ, avR, forall_const, implies_true, Nat.reduceEqDiff, Nat.reduceAdd, reduceCtorEq, ty_32]; try simp (disch := omega) only [av_w, av_t1, av_tp, Int.toNat_natCast]))
  refine aw_loopI (fun x : Nat × Nat => ⟨[(0, .d (handsD l)), (2, .d (.c (.func (.func 55) #[] #[]))), (4, .ptr 0 0), (8, vI l.length), (9, vI x.1), (10, vI x.2)], [(0, .cells 46 (dV (handD h)))], 1⟩)
    (fun x => x.1 ≤ x.2 ∧ x.2 ≤ l.length ∧ (∀ k, k < x.1 → befB (l.getD k default) h = true) ∧ (∀ k, x.2 ≤ k → k < l.length → befB (l.getD k default) h = false)) (fun x => x.2 - x.1) (0, l.length) ⟨Nat.zero_le _, Nat.le_refl _, fun k hk => absurd hk (Nat.not_lt_zero k), fun k h1 h2 => absurd h2 (by omega)⟩ (wk_of [(0, some 0)] rfl rfl ?_ ?_) ?_
  · simp only [wkA, reduceIte, Nat.reduceEqDiff]
    (repeat' (first | rfl | exact subVs_d _ _))
  · simp only [wkA, reduceIte, Nat.reduceEqDiff]
    (repeat' (first | rfl | exact subVs_d _ _))
  rintro ⟨i, j⟩ ⟨hij, hjn, hlo, hhi⟩
  dsimp only at hij hjn hlo hhi ⊢
  rcases Nat.lt_or_ge i j with hlt | hge
  · have hd := ltd hlt
    obtain ⟨m, hm⟩ : ∃ m, m = (i + j) / 2 := ⟨_, rfl⟩
    have hw := mid_run (i := i) (j := j) (m := m) (by omega) hm
    have hmn : m < l.length := by omega
    have hcm := gcompare_spec (l.getD m default) h (hOk_getD ho m) hh
    have hpk : ∀ a b, a < b → b < l.length → befB (l.getD a default) (l.getD b default) = true := fun a b hab hb => by
      rw [getD_atH hb, getD_atH (by omega)]
      exact List.pairwise_iff_getElem.1 hp a b (by omega) hb hab
    cases hb : befB (l.getD m default) h with
    | true =>
      have hb' := hb
      unfold befB at hb'
      repeat' (first | (with_reducible refine aw_seq ?_) | ((with_reducible refine two_intro ?_ ?_) <;> intro h <;> first | contradiction | ((first | (guard_hyp h : true = true; clear h) | (guard_hyp h : false = false; clear h)))) | ((with_reducible refine And.intro ?_ ?_); (focus (omega))) | (with_reducible refine aw_block ?_) | ((first | ((with_reducible refine aw_regionA T_ok ?_ ?_); kernel_rfl) | ((with_reducible refine aw_drawnX [0,1,2,3,4,5] [6,7] T_ok ?_ ?_ ?_ ?_); kernel_rfl; kernel_rfl; (focus (decide +kernel))) | ((with_reducible refine callI_spec (hcm) ?_ ?_ ?_ ?_); (focus (((repeat' (first | exact ta_n | refine ta_a ?_)); done))); kernel_rfl; kernel_rfl) | (with_reducible refine aw_skip ?_) | ((with_reducible refine aw_condM ?_ ?_); kernel_rfl) ); simp only [↓avP, avQ, avR, forall_const, implies_true, Nat.reduceEqDiff, Nat.reduceAdd, Int.reduceToNat, Nat.reduceLeDiff, reduceCtorEq, avS, handS, ty_H, ty_3, ty_32, ty_144, hd, hw, hb']; try simp (disch := omega) only [av_w]))
      refine ⟨(m + 1, j), ⟨by dsimp only; omega, hjn, fun k hk => ?_, hhi⟩, by dsimp only; omega, wk_of [(0, some 0)] rfl rfl ?_ ?_⟩
      · by_cases hkm : k = m
        · rw [hkm]; exact hb
        · exact bef_trans (hpk k m (by dsimp only at hk; omega) hmn) hb
      · simp only [wkA, reduceIte, Nat.reduceEqDiff]
        (repeat' (first | rfl | exact subVs_d _ _))
      · simp only [wkA, reduceIte, Nat.reduceEqDiff]
        (repeat' (first | rfl | exact subVs_d _ _))
    | false =>
      have hb' := hb
      unfold befB at hb'
      repeat' (first | (with_reducible refine aw_seq ?_) | ((with_reducible refine two_intro ?_ ?_) <;> intro h <;> first | contradiction | ((first | (guard_hyp h : true = true; clear h) | (guard_hyp h : false = false; clear h)))) | ((with_reducible refine And.intro ?_ ?_); (focus (omega))) | (with_reducible refine aw_block ?_) | ((first | ((with_reducible refine aw_regionA T_ok ?_ ?_); kernel_rfl) | ((with_reducible refine aw_drawnX [0,1,2,3,4,5] [6,7] T_ok ?_ ?_ ?_ ?_); kernel_rfl; kernel_rfl; (focus (decide +kernel))) | ((with_reducible refine callI_spec (hcm) ?_ ?_ ?_ ?_); (focus (((repeat' (first | exact ta_n | refine ta_a ?_)); done))); kernel_rfl; kernel_rfl) | (with_reducible refine aw_skip ?_) | ((with_reducible refine aw_condM ?_ ?_); kernel_rfl) ); simp only [↓avP, avQ, avR, forall_const, implies_true, Nat.reduceEqDiff, Nat.reduceAdd, Int.reduceToNat, Nat.reduceLeDiff, reduceCtorEq, avS, handS, ty_H, ty_3, ty_32, ty_144, hd, hw, hb']; try simp (disch := omega) only [av_w]))
      refine ⟨(i, m), ⟨by dsimp only; omega, by dsimp only; omega, hlo, fun k hk hk2 => ?_⟩, by dsimp only; omega, wk_of [(0, some 0)] rfl rfl ?_ ?_⟩
      · by_cases hkm : k = m
        · rw [hkm]; exact hb
        · cases hc : befB (l.getD k default) h with
          | false => rfl
          | true => rw [bef_trans (hpk m k (by dsimp only at hk; omega) hk2) hc] at hb; cases hb
      · simp only [wkA, reduceIte, Nat.reduceEqDiff]
        (repeat' (first | rfl | exact subVs_d _ _))
      · simp only [wkA, reduceIte, Nat.reduceEqDiff]
        (repeat' (first | rfl | exact subVs_d _ _))
  · obtain rfl : i = j := by omega
    have hd := ged (Nat.le_refl i)
    have hlb : lbH l h = i := lbH_of hjn hlo (fun h => hhi i (Nat.le_refl _) h)
    have hcm := gcompare_spec (l.getD i default) h (hOk_getD ho i) hh
    rcases Nat.lt_or_ge i l.length with hl1 | hl1
    · have hd2 := ltd hl1
      repeat' (first | (with_reducible refine aw_seq ?_) | ((with_reducible refine two_intro ?_ ?_) <;> intro h <;> first | contradiction | (((guard_hyp h : false = false; clear h)))) | ((with_reducible refine And.intro ?_ ?_); (focus (first | omega | grind))) | ((first | ((with_reducible refine aw_regionA T_ok ?_ ?_); kernel_rfl) | ((with_reducible refine aw_drawnA T_ok ?_ ?_ ?_ ?_); kernel_rfl; kernel_rfl; (focus (decide +kernel))) | ((with_reducible refine callK_intro (hcm) ?_ ?_ ?_); (focus (((repeat' (first | exact ta_n | refine ta_a ?_)); done))); kernel_rfl) | (with_reducible refine aw_exit ?_) | ((with_reducible refine aw_condM ?_ ?_); kernel_rfl) | (with_reducible refine aw_ret ?_) ); simp only [↓avP, avQ, avR, forall_const, implies_true, Nat.reduceEqDiff, Nat.reduceAdd, Nat.reduceLeDiff, reduceCtorEq, avS, handS, ty_H, ty_3, ty_32, hd, hd2]; try simp (disch := omega) only [av_w, av_t1, av_tp, Int.toNat_natCast]))
      refine ⟨Sub.of_eq (congrArg aI (by rw [hlb])), Sub.of_eq (congrArg aB ?_)⟩
      rw [foundH, hlb, decide_eq_true hl1, Bool.true_and]
    · have hd2 := ged hl1
      repeat' (first | (with_reducible refine aw_seq ?_) | ((with_reducible refine two_intro ?_ ?_) <;> intro h <;> first | contradiction | (((guard_hyp h : false = false; clear h)))) | ((with_reducible refine And.intro ?_ ?_); (focus (first | omega | grind))) | ((first | ((with_reducible refine aw_regionA T_ok ?_ ?_); kernel_rfl) | ((with_reducible refine aw_drawnA T_ok ?_ ?_ ?_ ?_); kernel_rfl; kernel_rfl; (focus (decide +kernel))) | ((with_reducible refine callK_intro (hcm) ?_ ?_ ?_); (focus (((repeat' (first | exact ta_n | refine ta_a ?_)); done))); kernel_rfl) | (with_reducible refine aw_exit ?_) | ((with_reducible refine aw_condM ?_ ?_); kernel_rfl) | (with_reducible refine aw_ret ?_) ); simp only [↓avP, avQ, avR, forall_const, implies_true, Nat.reduceEqDiff, Nat.reduceAdd, Nat.reduceLeDiff, reduceCtorEq, avS, handS, ty_H, ty_3, ty_32, hd, hd2]; try simp (disch := omega) only [av_w, av_t1, av_tp, Int.toNat_natCast]))
      refine ⟨Sub.of_eq (congrArg aI (by rw [hlb])), Sub.of_eq (congrArg aB ?_)⟩
      rw [foundH, hlb, decide_eq_false (by omega), Bool.false_and]
end Go.Proofs.Ythidfoohhhkobaa


namespace Go.Proofs.Ythidfoohhhkobaa
set_option linter.unusedVariables false
set_option linter.unusedSimpArgs false
open Go.RowKit
section
variable {P : Program} {B : Base} {T : Tab}
def inP (N : Nat) (ch : List PanicEntry) (K : St → Prop) : AQ := fun e s => match e with
  | .panic c => c = ch ∧ K ⟨unT N s.tm, s.st, s.nx⟩
  | _ => False
theorem callP_in {f : FuncId} {fn : Func} {c : Code} {vs : List V} {ch : List PanicEntry} {s : St} {K : St → Prop} {N : Nat} (hf : P.funcs[f]? = some fn) (hN : fn.ntmps = N) (hb : fn.body = some c)
    (hname : (P.funcs[f]?).any (fun fn => fn.name != "runtime.NumGoroutine" && fn.body.isSome) = true) (hn : vs.length ≤ N)
    (h : ∀ a, AW P (B.inn N (vOf B a) (gdOf B a)) c (inP N ch K) ⟨⟩ ⟨inV 0 vs ++ shT N s.tm, s.st, s.nx⟩) : callP P B f vs ch s K ⟨⟩ := by
  subst hN
  refine ⟨hname, fun E a us hG hv => callsIn_wide.1 (callsIn_of_wp_marks (F := Fence.wide) (n := 0) hf hb trivial (Code.wpIn_mono ?_ (h a E _ (gam_enter hG hv hn))) rfl)⟩
  rintro e a' w' ⟨E0, s', rfl, hG0, hq⟩
  cases e <;> simp only [inP] at hq <;> try exact hq.elim
  obtain ⟨rfl, hK⟩ := hq
  rename_i ch
  obtain ⟨ds, hds, hnd, hdp, hgd⟩ := hG0.2.defers
  obtain ⟨E', hS, hX, hk, hL⟩ := leaves_ofG (fn := fn) (u := .panicking ch) (X := []) (R := fun e w' => ∃ E' s', e = .panicked ch ∧ E'.w = w' ∧ Gam P B s' E' a ∧ K s') (by simp) ds E0 hG0.1 hnd (fun D hD => (hdp D hD).1) a'.tmps
  have hkeep : ∀ D, gdOf B a D → E'.dp D := fun D hD => hk D (hgd D hD) (fun hm => (hdp D hm).2 hD)
  have hG' : Gam P (B.inn fn.ntmps (vOf B a) (gdOf B a)) s' E' ⟨a'.tmps, []⟩ := ⟨hS, fun t => RV.mono hX _ _ (hG0.2.tm t), ⟨[], ⟨rfl, fun _ h => (by cases h)⟩, List.nodup_nil, fun D hD => (by cases hD), hkeep⟩, hG0.2.size⟩
  show LeavesInM Fence.wide 0 P fn a'.tmps _ a'.defers (.panicking ch) E0.w
  rw [hds.1, show (B.inn fn.ntmps (vOf B a) (gdOf B a)).df = [] from rfl, List.append_nil]
  have hgl := gam_leave (N := fn.ntmps) (ds := ds) hG hS hG'.2.tm hkeep
  rw [List.append_nil] at hL
  exact hL ⟨E', ⟨unT fn.ntmps s'.tm, s'.st, s'.nx⟩, rfl, rfl, hgl, hK⟩
theorem callI_wk {f : FuncId} {vs : List V} {d : Option Tmp} {s s1 : St} {K : St → Prop} (h : callI P B f vs d s (fun s' => Wk P B s' s1) ⟨⟩) (hK : K s1) : callI P B f vs d s K ⟨⟩ := by
  refine ⟨h.1, fun E a us hG hv => (h.2 E a us hG hv).mono ?_⟩
  rintro e w' ⟨u, E', s', rfl, rfl, hG', hw⟩
  obtain ⟨E2, e2, hG2⟩ := hw E' _ hG'
  exact ⟨u, E2, s1, rfl, e2, hG2, hK⟩
theorem callP_wk {f : FuncId} {vs : List V} {ch : List PanicEntry} {s s1 : St} {K : St → Prop} (h : callP P B f vs ch s (fun s' => Wk P B s' s1) ⟨⟩) (hK : K s1) : callP P B f vs ch s K ⟨⟩ := by
  refine ⟨h.1, fun E a us hG hv => (h.2 E a us hG hv).mono ?_⟩
  rintro e w' ⟨E', s', rfl, rfl, hG', hw⟩
  obtain ⟨E2, e2, hG2⟩ := hw E' _ hG'
  exact ⟨E2, s1, rfl, e2, hG2, hK⟩
theorem callI_d {f : FuncId} {vs : List V} {t n sz : Nat} {d0 : List D} {es : List (List D)} {tm : List (Nat × V)} {st : List (Nat × Blk)} {nx : Nat} {s : St} {K : St → Prop}
    (h : callI P B f vs (some t) s (fun s' => s' = ⟨put (some t) (.ow n sz d0 es) tm, st, nx⟩) ⟨⟩) (hK : K ⟨put (some t) (.d (.sl sz d0 es)) tm, st, nx⟩) : callI P B f vs (some t) s K ⟨⟩ := by
  refine ⟨h.1, fun E a us hG hv => (h.2 E a us hG hv).mono ?_⟩
  rintro e w' ⟨u, E', s', rfl, rfl, hG', rfl⟩
  refine ⟨u, E', ⟨put (some t) (.d (.sl sz d0 es)) tm, st, nx⟩, rfl, rfl, ⟨hG'.1, ⟨fun k => ?_, hG'.2.defers, hG'.2.size⟩⟩, hK⟩
  have := hG'.2.tm k
  simp only [put, lkT_setT] at this ⊢
  by_cases hk : k = t
  · rw [if_pos hk] at this ⊢
    simp only [RV] at this ⊢
    exact this.2
  · rw [if_neg hk] at this ⊢
    exact this
end
end Go.Proofs.Ythidfoohhhkobaa


namespace Go.Proofs.Ythidfoohhhkobaa
set_option linter.unusedSimpArgs false
set_option linter.unusedVariables false
open Go.RowKit
theorem flat_take {sz : Nat} : ∀ (es : List (List D)) (i : Nat), (∀ x ∈ es, x.length = sz) → es.flatten.take (i * sz) = (es.take i).flatten ∧ es.flatten.drop (i * sz) = (es.drop i).flatten
  | [], i, _ => by simp
  | e :: es, 0, _ => by simp
  | e :: es, i + 1, h => by
    have hl := h e (by simp)
    obtain ⟨h1, h2⟩ := flat_take es i (fun x hx => h x (by simp [hx]))
    have he : (i + 1) * sz = e.length + i * sz := by rw [hl, Nat.add_mul]; omega
    simp only [List.flatten_cons, List.take_succ_cons, List.drop_succ_cons]
    rw [he, List.take_length_add_append, List.drop_length_add_append, h1, h2]
    exact ⟨rfl, rfl⟩
theorem callI_insH0 {B : Base} {s : St} {d : Option Tmp} {K : St → Prop} {n m i : Nat} {d0 : List V} {dd dx : List D} {es : List (List D)} {x : List D}
    (hd : (match d with | some t => decide (t < B.N) | none => true) = true) (hlk : lkB s.st n = some (.row 46 42 d0 (es.map dV))) (hlm : lkB s.st m = some (.tok 46 42 1)) (hnm : n ≠ m)
    (hi : i ≤ es.length) (hmax : es.length ≤ 1048576) (hel : ∀ y ∈ es, y.length = 42) (hx : x.length = 42)
    (hK : K ⟨put d (.ow s.nx 42 dd (es.take i ++ [x] ++ es.drop i)) s.tm, (s.nx, .tok 46 42 (es.take i ++ [x] ++ es.drop i).length) :: delB n s.st, s.nx + 1⟩) : callI Try.prog B 62 [.mo n, vI i, .ow m 42 dx [x]] d s K ⟨⟩ := by
  have hfl : (es.take i ++ [x] ++ es.drop i).length = es.length + 1 := by simp only [List.length_append, List.length_take, List.length_drop, List.length_cons, List.length_nil]; omega
  refine callI_regrow (el := 46) (sz := 42) (dd := dd) (fs := es.take i ++ [x] ++ es.drop i) (by kernel_rfl) hd hlk (by omega) (fun y hy => ?_) (fun E a us v ys hG hv h1 hown hR hone => ?_) hK
  · simp only [List.mem_append, List.mem_singleton] at hy
    rcases hy with (hy | rfl) | hy
    · exact hel y (List.mem_of_mem_take hy)
    · exact hx
    · exact hel y (List.mem_of_mem_drop hy)
  · simp only [RVL] at hv
    obtain ⟨v', r, rfl, hv1, u2, r2, rfl, hv2, xv, r3, rfl, hv3, rfl⟩ := hv
    simp only [RV, RD] at hv1 hv2
    subst hv2
    obtain rfl : v' = v := by have := hv1.1; rw [h1] at this; exact (Option.some.inj this).symm
    have hv3' : E.η m = some xv ∧ RD E.F E.w (.sl 42 dx [x]) xv := by simpa only [RV] using hv3
    obtain ⟨v2, us2, g1, g2, g3⟩ := hG.1.st m _ hlm
    obtain rfl : v2 = xv := by rw [hv3'.1] at g1; exact (Option.some.inj g1).symm
    obtain ⟨c1, c2, c3, _⟩ := own_cells (es := [x]) hv3'.2 g2
    rw [List.length_map] at hown
    have hys : RDL E.F E.w es.flatten ys := RVL.to_data (by rw [← dV_flat]; exact hR)
    have hb2 : ∃ b, hb v2 = some b := by
      rcases g2.2 with ⟨_, h0⟩ | ⟨g, cap, cur, rfl, _⟩
      · omega
      · exact ⟨g, rfl⟩
    obtain ⟨a1, cc1, e1, _⟩ := own_form hown
    obtain ⟨a2, cc2, e2, _⟩ := own_form g2
    refine (insH_any E.w v' v2 es.length i ys us2 hi (by omega) hown g2 ?_ hone c2).mono ?_
    · rw [ownBlock_hb e1, ownBlock_hb e2]
      obtain ⟨b, hb2⟩ := hb2
      intro e
      exact hG.1.dist n m _ _ b v' v2 hnm hlk hlm h1 hv3'.1 (e.trans hb2) hb2
    · rintro e w' ⟨v3, rfl, k1, k2⟩
      refine ⟨v3, _, rfl, by rw [hfl]; exact k1, k2, ?_, ?_⟩
      · obtain ⟨f1, f2⟩ := flat_take (sz := 42) es i hel
        have t1 := RDL.take (i * 42) hys
        have t2 := RDL.drop (i * 42) hys
        rw [f1] at t1
        rw [f2] at t2
        have := RDL.append (RDL.append t1 c1) t2
        simpa using this
      · intro u hu
        simp only [List.mem_append] at hu
        rcases hu with (hu | hu) | hu
        · exact hone u (List.mem_of_mem_take hu)
        · exact c2 u hu
        · exact hone u (List.mem_of_mem_drop hu)
theorem callI_insH {B : Base} {s : St} {t : Nat} {K : St → Prop} {n m i : Nat} {d0 : List V} {dd dx : List D} {es : List (List D)} {x : List D}
    (hd : decide (t < B.N) = true) (hlk : lkB s.st n = some (.row 46 42 d0 (es.map dV))) (hlm : lkB s.st m = some (.tok 46 42 1)) (hnm : n ≠ m)
    (hi : i ≤ es.length) (hmax : es.length ≤ 1048576) (hel : ∀ y ∈ es, y.length = 42) (hx : x.length = 42)
    (hK : K ⟨put (some t) (.d (.sl 42 dd (es.take i ++ [x] ++ es.drop i))) s.tm, (s.nx, .tok 46 42 (es.take i ++ [x] ++ es.drop i).length) :: delB n s.st, s.nx + 1⟩) : callI Try.prog B 62 [.mo n, vI i, .ow m 42 dx [x]] (some t) s K ⟨⟩ :=
  callI_d (callI_insH0 (dd := dd) hd hlk hlm hnm hi hmax hel hx rfl) hK

structure ActP where
  kind : Int
  peer : Int
  to_ : Int
  at_ : Int
  hand : Hd
  deriving DecidableEq
def actD (a : ActP) : List D := cI a.kind :: cI a.peer :: cI a.to_ :: cI a.at_ :: handD a.hand
theorem actD_V (a : ActP) : dV (actD a) = vI a.kind :: vI a.peer :: vI a.to_ :: vI a.at_ :: dV (handD a.hand) := rfl
theorem actD_ln (a : ActP) : (actD a).length = 46 := by simp [actD, hd_ln]
def learnL (l : List Hd) (h : Hd) : List Hd := if foundH l h = true then l else l.take (lbH l h) ++ [h] ++ l.drop (lbH l h)
def setPeer (l : List (List Hd)) (i : Int) (h : Hd) : List (List Hd) := l.set i.toNat (learnL (l.getD i.toNat []) h)
def tellPk (n : Nat) (i : Int) (h : Hd) : List Pk := ((List.range n).filter (fun k : Nat => decide ((k : Int) ≠ i))).map (fun k : Nat => ⟨i, (k : Int), msg h⟩)
def syncPk (l : List Hd) (i k : Int) : List Pk := l.map fun h => ⟨i, k, msg h⟩
def inR (r : RoomP) (n : Int) : Bool := decide (n ≥ 0) && decide (n < r.peers.length)
def actE (r : RoomP) (a : ActP) : Int :=
  if a.kind = 1 then (if inR r a.peer = false then 1 else if formB a.hand = false then 480 else 0)
  else if a.kind = 2 then (if inR r a.peer = false ∨ inR r a.to_ = false ∨ a.peer = a.to_ then 1 else 0)
  else if a.kind = 3 ∨ a.kind = 4 then atErr r.net a.at_
  else if a.kind = 5 then repErr r.net a.at_
  else 1
def actR (r : RoomP) (a : ActP) : RoomP :=
  if a.kind = 1 then ⟨setPeer r.peers a.peer a.hand, ⟨r.net.queue ++ tellPk r.peers.length a.peer a.hand, r.net.apart⟩⟩
  else if a.kind = 2 then ⟨r.peers, ⟨r.net.queue ++ syncPk (r.peers.getD a.peer.toNat []) a.peer a.to_, r.net.apart⟩⟩
  else if a.kind = 3 then (let p := delP r.net a.at_
    ⟨if p.frm = p.to_ then r.peers else setPeer r.peers p.to_ (readH p.data).1, loseN r.net a.at_⟩)
  else if a.kind = 4 then ⟨r.peers, loseN r.net a.at_⟩
  else ⟨r.peers, repN r.net a.at_⟩
def doE (r : RoomP) (a : ActP) : Int := if roomChk r ≠ 0 then 540 else actE r a
def doR (r : RoomP) (a : ActP) : RoomP := if doE r a = 0 then actR r a else room0
def fewR (r : RoomP) : Prop := r.net.queue.length ≤ 3000 ∧ ∀ l ∈ r.peers, l.length ≤ 1000
theorem linkB_mm {i k : Int} {n : Nat} (hn : n ≤ 24) (h1 : 0 ≤ i) (h2 : i < n) (h3 : 0 ≤ k) (h4 : k < n) (hne : i ≠ k) : linkB (mm i k) = true := by
  unfold linkB mm
  simp only [Bool.and_eq_true, decide_eq_true_eq]
  split <;> split <;> omega
theorem packetB_of {i k : Int} {n : Nat} {d : List UInt8} (hn : n ≤ 24) (h1 : 0 ≤ i) (h2 : i < n) (h3 : 0 ≤ k) (h4 : k < n) (hne : i ≠ k) (hd : d.length ≤ 1048576) : packetB ⟨i, k, d⟩ = true := by
  unfold packetB
  rw [linkB_mm hn h1 h2 h3 h4 hne, Bool.true_and]
  exact decide_eq_true (by dsimp only; omega)
theorem netChk_snoc {n : NetP} {p : Pk} (h : netChk n = 0) (hp : packetB p = true) (hl : n.queue.length < 4096) : netChk ⟨n.queue ++ [p], n.apart⟩ = 0 := by
  unfold netChk at h ⊢
  split at h
  · cases h
  · rename_i hn
    rw [if_neg]
    · exact h
    · intro hc
      rcases hc with hc | hc
      · simp at hc; omega
      · refine hn (.inr ?_)
        simpa [hp] using hc
theorem send_ok {n : NetP} {p : Pk} (h : netChk n = 0) (hp : packetB p = true) (hl : n.queue.length < 4096) : sendErr n p = 0 ∧ sendN n p = ⟨n.queue ++ [p], n.apart⟩ := by
  have he : sendErr n p = 0 := by
    unfold sendErr
    rw [if_neg (by simp [h, hp]), if_neg (by omega)]
  exact ⟨he, by rw [sendN, if_pos he]⟩
end Go.Proofs.Ythidfoohhhkobaa

