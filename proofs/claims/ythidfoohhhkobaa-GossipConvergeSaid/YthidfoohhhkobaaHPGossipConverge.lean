/- GossipConverge: for every input the law returns true, and each argument reads as it did. -/
import Derived.Test.YthidfoohhhkobaaH27
import Derived.Test.YthidfoohhhkobaaH26
namespace Go.Proofs.Ythidfoohhhkobaa
set_option linter.unusedSimpArgs false
set_option linter.unusedVariables false
open Go.ChangeShapes Go.WideShapes Go.ChangeAt Go.RowKit

set_option maxRecDepth 100000 in
theorem gossipConverge_lifted (os : Os) (started : os.Started) (H : Type) (enc : TypeId × Value → H) :
    ReturnsInHanded {} Try.checked os 5 .any (Rows.gossipConvergeSpec.pre6 enc Try.prog Try.f5 Rows.gossipConvergeRow.domain false) (Rows.gossipConvergeSpec.post enc Try.prog Try.f5 false true false false) := by
  refine returnsInHanded_of_change_sized (C := Try.checked) Try.own started (by kernel_rfl) Try.func5
    (ChangeSpec.witness6 (enc := enc) (C := Try.checked) false ⟨#[], #[.int .u8 0, .slice none 0 0, .slice none 0 0], []⟩ 8 (by kernel_rfl) (by kernel_rfl) (by kernel_rfl) (by kernel_rfl)) ?_
  intro W base args ds gs before hval0 hW _ hsz _
  have hval : ∀ (j : Nat) t v, Try.f5.params[j]? = some t → args[j]? = some v → Value.okWide Try.prog W .any base t v := hval0
  have hW' := hW
  obtain ⟨p, q, hA0, hV, rfl, _, _⟩ := hW'
  have hA : DataW.TrodAll enc Try.prog W 0 (fun _ => true) true Try.f5.params.toList args.toList ds p := hA0
  have hsz0 : (DataW.weightsEach Try.prog (Try.f5.params.toList ++ Rows.gossipConvergeSpec.plain.varTypes Try.prog) (ds ++ gs)).all (· ≤ reachBytes) = true := hsz
  rw [Try.params5] at hA hval hsz0
  obtain ⟨v0, vs0, d0, ds0, p0, q0, hargs0, rfl, rfl, h0, r0⟩ := trodAll_cons hA
  obtain ⟨v1, vs1, d1, ds1, p1, q1, hargs1, rfl, rfl, h1, r1⟩ := trodAll_cons r0
  obtain ⟨v2, vs2, d2, ds2, p2, q2, hargs2, rfl, rfl, h2, r2⟩ := trodAll_cons r1
  obtain ⟨rfl, rfl, rfl⟩ := trodAll_nil r2
  subst hargs2
  subst hargs1
  obtain rfl : args = #[v0, v1, v2] := by cases args; simp_all
  obtain ⟨rfl, rfl⟩ := trodVars_none hV
  obtain ⟨a0, o0, ra0⟩ := arg_int Try.underlying5 (hval 0 5 v0 rfl rfl) h0
  obtain ⟨a1, o1, ra1⟩ := arg_row opens_acts Try.underlying22 (hval 1 22 v1 rfl rfl) h1 (sized hsz0 (j := 1) rfl rfl)
  obtain ⟨a2, o2, ra2⟩ := arg_row opens_bytes Try.underlying23 (hval 2 23 v2 rfl rfl) h2 (sized hsz0 (j := 2) rfl rfl)
  have hs : Spec Try.prog 5 _ (.r1 (aB true)) := glawConverge_spec a0 a1 a2 (wf_u8h o0) o1 o2.1
  refine (hs (ftN W) W [v0, v1, v2] (ftN_lt W) ⟨_, _, rfl, ra0, ⟨_, _, rfl, ra1, ⟨_, _, rfl, ra2, rfl⟩⟩⟩).mono fun e W' ⟨v, F', he, hb, _, hr⟩ => ?_
  obtain rfl : v = .bool true := hr
  subst he
  simp only [List.append_nil] at hW
  exact ⟨_, rfl, post_read Try.laidOut rfl (tb := 4) rfl Try.underlying4 (by kernel_rfl) rfl (by simpa using hW) hb⟩

theorem gossipConverge_holds : Rows.GossipConvergeSaid :=
  OpenClaim.holds_of_wide 5 Try.f5 rfl rfl rfl rfl rfl rfl rfl ⟨rfl, rfl, rfl, rfl, rfl⟩ rfl rfl rfl rfl rfl (by kernel_rfl) Try.func5 (by kernel_rfl)
    (of_decide_eq_true (by kernel_rfl)) (by unfold Func.isWrapper; first | (rw [if_pos (by decide +kernel)]; kernel_rfl) | (rw [if_neg (by decide +kernel)]; exact ⟨rfl, rfl⟩))
    (fun os started H enc _ => gossipConverge_lifted os started H enc)
end Go.Proofs.Ythidfoohhhkobaa
