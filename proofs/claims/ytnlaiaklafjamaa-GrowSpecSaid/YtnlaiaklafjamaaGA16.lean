import Derived.Test.YtnlaiaklafjamaaGA15
namespace Go.Proofs.Ytnlaiaklafjamaa
set_option linter.unusedVariables false
set_option linter.unusedSimpArgs false
open Go.RowKit
theorem frz_dV (n : Nat) (v : V) (l : List D) : (dV l).map (frz1 n v) = dV l := by
  unfold dV
  rw [List.map_map]
  exact List.map_congr_left fun x _ => rfl
section
variable {P : Program} {B : Base} {T : Tab}
/-- an early write, heads and tail given -/
theorem aw_drawnTX (iw n : Nat) (hd tl : List Nat) {id : Nat} {ops : Array Oper} {s : St} {Q : AQ} (hT : TabOk P T) (hm : P.follows .mixedOrders = true) (hl : (ops.toList.all (opOk B.N)) = true) (hok : drawOkS ops.toList (iw :: hd) tl iw = true)
    (hh : (iw :: hd).filter (fun i => i != iw) = hd)
    (h : hwp P T ops s.st s.nx (pickOps ops.toList hd) s.tm [] (fin2 (fun tm nb => earlyK T ops.toList[iw]? n tm s.st (fun st1 => hwp P T ops st1 s.nx (pickOps ops.toList hd) s.tm [] (fin2 (fun tm' nb' => (tm', nb') = (tm, nb) ∧ rwp P B T ops ((pickOps ops.toList tl).map (·.2)) ⟨tm, nb ++ st1, s.nx + ops.toList.length⟩ (Q .normal)) ⟨⟩))) ⟨⟩)) : AW P B (.region id ops true) Q ⟨⟩ s := fun E a hG => by
  obtain ⟨l, rfl⟩ : ∃ l : List Oper, ops = l.toArray := ⟨ops.toList, by simp⟩
  simp only [List.toList_toArray] at hl hok hh h
  have hops0 : ∀ o ∈ l.toArray.toList, opOk B.N o = true := fun o ho => List.all_eq_true.1 hl o (by simpa using ho)
  have hc : ((pickOps l hd).all fun p => p.2.op.operands.toList.all (constOk B.N)) = true := List.all_eq_true.2 fun p hp => by
    have := List.all_eq_true.1 hl p.2 (List.mem_of_getElem? (pickOps_mem.1 hp).2)
    simp only [opOk, Bool.and_eq_true] at this
    exact this.1
  obtain ⟨tmF, nbF, hK, hrun⟩ := hwp_ok (B := B) hT hops0 _ _ _ hc h
  have hG' := gam_drew hG
  have hst0 : ∀ n, s.nx ≤ n → lkB s.st n = none := fun n hn => hG.1.none_of_fresh hn
  unfold fin2 at hK
  obtain ⟨st1, hK2, hst1, hoth, hwr⟩ := early_ok (B := B) hT hl hst0 hK
  obtain ⟨tmF1, nbF1, hK3, hrun1⟩ := hwp_ok (B := B) hT hops0 _ _ _ hc hK2
  obtain ⟨heq, hK1⟩ := hK3
  cases heq
  refine wpIn_region_any hm ?_
  have htail : ((pickOps l tl).map (·.2)).all (opOk B.N) = true := List.all_eq_true.2 fun o ho => by
    obtain ⟨p, hp, rfl⟩ := List.mem_map.1 ho
    exact List.all_eq_true.1 hl p.2 (List.mem_of_getElem? (pickOps_mem.1 hp).2)
  rw [← hh] at hrun hrun1
  have := wpAny_headsS (Q := AQQ P B Q) hok hrun hrun1 hl hst0 hst1 (fun _ _ hb => hb) (fun _ _ hb => hb) hwr (fun E a hG => rwp_list hT hops0 _ _ _ htail hK1 (fun s' hs E a hG => ⟨E, s', rfl, hG, hs⟩) E a hG) (iw :: hd).length (Array.replicate l.toArray.size false) ⟨E.η, E.F, { E.w with drawn := E.w.drawn + 1 }, E.dp⟩ a
    ⟨by simp, fun j oj _ hl => (by rw [getD_replicate_false] at hl; cases hl)⟩ (fun t _ => getD_replicate_false _ _) (by
      rw [List.countP_eq_length]; intro i _; rw [getD_replicate_false]; rfl)
    (hG'.1.congr (fun n => by
      rw [getD_replicate_false, getD_replicate_false]
      by_cases hn : s.nx ≤ n
      · rw [if_pos hn, if_neg (by simp), hst0 n hn]
      · rw [if_neg hn, if_neg (by simp)]) (fun n hn => hn.1))
    ⟨fun t => by
      have : ((pickOps l ((iw :: hd).filter (fun i => i != iw))).any fun p => p.2.dst == some t && (Array.replicate l.toArray.size false).getD p.1 false) = false := by
        rw [List.any_eq_false]; intro p _; rw [getD_replicate_false]; simp
      rw [this, if_neg (by simp)]
      exact hG'.2.tm t, hG'.2.defers, hG'.2.size⟩
  have hlen : (iw :: hd).length + tl.length = l.length := by
    simp only [drawOkS, Bool.and_eq_true, decide_eq_true_eq] at hok
    exact hok.1.1.2
  rw [hlen] at this
  simpa using this
/-- the walk stands at a region -/
structure StopAt (p : Prop) : Prop where
  go : p
theorem aw_stop {id : Nat} {ops : Array Oper} {b : Bool} {s : St} {Q : AQ} (h : StopAt (AW P B (.region id ops b) Q ⟨⟩ s)) : AW P B (.region id ops b) Q ⟨⟩ s := h.go
end
end Go.Proofs.Ytnlaiaklafjamaa

