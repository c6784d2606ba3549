/-
  No cell of these rows narrows 'for every input' (looked for: loops, veiled, ifaces, maps, wideKeys, modest, calm, conditions, laid).
  DERIVED. THE GIVEN ROWS OF THIS SEAT. 12 by the template 'for every input the law returns true; each argument reads behind the call as it read before'; 0 by the template 'total and deterministic' (their statements: YtfmefdeldgmhpaaTotals.lean).
  GIVEN WITH THE SEED: the statements are not yours to turn. If you find one false, say at which input.
  Laid BY PROGRAM, IN A SANDBOX (cutbox-rows.mjs): the forced cells as the released guide's own fill.sh prints them over the translation a490900b3bb9efb6… (all of the seat's roots in one cut). By AI agents, Wed Nov 11 2026. No macro, syntax, notation, axiom, sorry.
-/
import Derived.Test.YtfmefdeldgmhpaaChecked
import GoSem.Claim
import GoSem.ClaimJoined
import GoSem.ClaimMapViews
import Derived.JoinedTies
import Derived.KernelRfl
namespace Go.Proofs.Ytfmefdeldgmhpaa
/- THE CELL 'sum', in the pinned program and in every row, IS THE sha256 OF THE DUMP (.gsa) THAT YtfmefdeldgmhpaaProg.lean LOADS. Nothing in Lean hashes anything: it is a label: what it is worth is what the hold of that sum in a sandbox is worth. -/
noncomputable def Try.pinned : Pinned := { name := "ytfmefdeldgmhpaa", sum := "a490900b3bb9efb64809da7a3d40096fb6fe23a862bf0af77b3342e44762afef", checked := Try.checked }
namespace Rows
def none {H : Type} : Left H := { results := [], args := [] }

/-- 'frankinglaw34.HomesSpec': WHATEVER THE INPUT: true; the input reads as it did. -/
def homesSpecSpec : ChangeSpec := { name := "homesSpec", fn := fun _ => fun
  | [d1, d2, d3, d4] => { results := [.lit (.bool true)], args := [d1, d2, d3, d4] }
  | _ => none }
def homesSpecRow : OpenClaim := { program := "ytfmefdeldgmhpaa", sum := "a490900b3bb9efb64809da7a3d40096fb6fe23a862bf0af77b3342e44762afef", func := "franking/frankinglaw34.HomesSpec", spec := "homesSpec", unfollowed := true, recurses := true, plainKeys := false, apart := false }
def HomesSpecSaid : Prop := homesSpecRow.holds Try.pinned (OpenSpec.ofChange homesSpecSpec)

/-- ITS FALSE NEIGHBOUR: 'it returns false'. Refute it at one input. -/
def homesSpecWrong : ChangeSpec := { name := "homesSpec", fn := fun _ => fun
  | [d1, d2, d3, d4] => { results := [.lit (.bool false)], args := [d1, d2, d3, d4] }
  | _ => none }
def HomesSpecWrongFalsely : Prop := homesSpecRow.holds Try.pinned (OpenSpec.ofChange homesSpecWrong)

/-- 'frankinglaw34.HomesOnce': WHATEVER THE INPUT: true; the input reads as it did. -/
def homesOnceSpec : ChangeSpec := { name := "homesOnce", fn := fun _ => fun
  | [d1, d2, d3, d4] => { results := [.lit (.bool true)], args := [d1, d2, d3, d4] }
  | _ => none }
def homesOnceRow : OpenClaim := { program := "ytfmefdeldgmhpaa", sum := "a490900b3bb9efb64809da7a3d40096fb6fe23a862bf0af77b3342e44762afef", func := "franking/frankinglaw34.HomesOnce", spec := "homesOnce", unfollowed := true, recurses := true, plainKeys := false, apart := false }
def HomesOnceSaid : Prop := homesOnceRow.holds Try.pinned (OpenSpec.ofChange homesOnceSpec)

/-- ITS FALSE NEIGHBOUR: 'it returns false'. Refute it at one input. -/
def homesOnceWrong : ChangeSpec := { name := "homesOnce", fn := fun _ => fun
  | [d1, d2, d3, d4] => { results := [.lit (.bool false)], args := [d1, d2, d3, d4] }
  | _ => none }
def HomesOnceWrongFalsely : Prop := homesOnceRow.holds Try.pinned (OpenSpec.ofChange homesOnceWrong)

/-- 'frankinglaw34.HomesOthers': WHATEVER THE INPUT: true; the input reads as it did. -/
def homesOthersSpec : ChangeSpec := { name := "homesOthers", fn := fun _ => fun
  | [d1, d2, d3, d4] => { results := [.lit (.bool true)], args := [d1, d2, d3, d4] }
  | _ => none }
def homesOthersRow : OpenClaim := { program := "ytfmefdeldgmhpaa", sum := "a490900b3bb9efb64809da7a3d40096fb6fe23a862bf0af77b3342e44762afef", func := "franking/frankinglaw34.HomesOthers", spec := "homesOthers", unfollowed := true, recurses := true, plainKeys := false, apart := false }
def HomesOthersSaid : Prop := homesOthersRow.holds Try.pinned (OpenSpec.ofChange homesOthersSpec)

/-- ITS FALSE NEIGHBOUR: 'it returns false'. Refute it at one input. -/
def homesOthersWrong : ChangeSpec := { name := "homesOthers", fn := fun _ => fun
  | [d1, d2, d3, d4] => { results := [.lit (.bool false)], args := [d1, d2, d3, d4] }
  | _ => none }
def HomesOthersWrongFalsely : Prop := homesOthersRow.holds Try.pinned (OpenSpec.ofChange homesOthersWrong)

/-- 'frankinglaw34.HomesCounted': WHATEVER THE INPUT: true; the input reads as it did. -/
def homesCountedSpec : ChangeSpec := { name := "homesCounted", fn := fun _ => fun
  | [d1, d2, d3, d4] => { results := [.lit (.bool true)], args := [d1, d2, d3, d4] }
  | _ => none }
def homesCountedRow : OpenClaim := { program := "ytfmefdeldgmhpaa", sum := "a490900b3bb9efb64809da7a3d40096fb6fe23a862bf0af77b3342e44762afef", func := "franking/frankinglaw34.HomesCounted", spec := "homesCounted", unfollowed := true, recurses := true, plainKeys := false, apart := false }
def HomesCountedSaid : Prop := homesCountedRow.holds Try.pinned (OpenSpec.ofChange homesCountedSpec)

/-- ITS FALSE NEIGHBOUR: 'it returns false'. Refute it at one input. -/
def homesCountedWrong : ChangeSpec := { name := "homesCounted", fn := fun _ => fun
  | [d1, d2, d3, d4] => { results := [.lit (.bool false)], args := [d1, d2, d3, d4] }
  | _ => none }
def HomesCountedWrongFalsely : Prop := homesCountedRow.holds Try.pinned (OpenSpec.ofChange homesCountedWrong)

/-- 'frankinglaw34.HomesShared': WHATEVER THE INPUT: true; the input reads as it did. -/
def homesSharedSpec : ChangeSpec := { name := "homesShared", fn := fun _ => fun
  | [d1, d2, d3, d4, d5] => { results := [.lit (.bool true)], args := [d1, d2, d3, d4, d5] }
  | _ => none }
def homesSharedRow : OpenClaim := { program := "ytfmefdeldgmhpaa", sum := "a490900b3bb9efb64809da7a3d40096fb6fe23a862bf0af77b3342e44762afef", func := "franking/frankinglaw34.HomesShared", spec := "homesShared", unfollowed := true, recurses := true, plainKeys := false, apart := false }
def HomesSharedSaid : Prop := homesSharedRow.holds Try.pinned (OpenSpec.ofChange homesSharedSpec)

/-- ITS FALSE NEIGHBOUR: 'it returns false'. Refute it at one input. -/
def homesSharedWrong : ChangeSpec := { name := "homesShared", fn := fun _ => fun
  | [d1, d2, d3, d4, d5] => { results := [.lit (.bool false)], args := [d1, d2, d3, d4, d5] }
  | _ => none }
def HomesSharedWrongFalsely : Prop := homesSharedRow.holds Try.pinned (OpenSpec.ofChange homesSharedWrong)

/-- 'frankinglaw33.RegistrySpec': WHATEVER THE INPUT: true; the input reads as it did. -/
def registrySpecSpec : ChangeSpec := { name := "registrySpec", fn := fun _ => fun
  | [d1, d2, d3] => { results := [.lit (.bool true)], args := [d1, d2, d3] }
  | _ => none }
def registrySpecRow : OpenClaim := { program := "ytfmefdeldgmhpaa", sum := "a490900b3bb9efb64809da7a3d40096fb6fe23a862bf0af77b3342e44762afef", func := "franking/frankinglaw33.RegistrySpec", spec := "registrySpec", inPlace := ["slices.overlaps[franking/api.Entry]"], unfollowed := true, recurses := true, plainKeys := false, apart := false }
def RegistrySpecSaid : Prop := registrySpecRow.holds Try.pinned (OpenSpec.ofChange registrySpecSpec)

/-- ITS FALSE NEIGHBOUR: 'it returns false'. Refute it at one input. -/
def registrySpecWrong : ChangeSpec := { name := "registrySpec", fn := fun _ => fun
  | [d1, d2, d3] => { results := [.lit (.bool false)], args := [d1, d2, d3] }
  | _ => none }
def RegistrySpecWrongFalsely : Prop := registrySpecRow.holds Try.pinned (OpenSpec.ofChange registrySpecWrong)

/-- 'frankinglaw33.RegistryAddSpec': WHATEVER THE INPUT: true; the input reads as it did. -/
def registryAddSpecSpec : ChangeSpec := { name := "registryAddSpec", fn := fun _ => fun
  | [d1, d2] => { results := [.lit (.bool true)], args := [d1, d2] }
  | _ => none }
def registryAddSpecRow : OpenClaim := { program := "ytfmefdeldgmhpaa", sum := "a490900b3bb9efb64809da7a3d40096fb6fe23a862bf0af77b3342e44762afef", func := "franking/frankinglaw33.RegistryAddSpec", spec := "registryAddSpec", inPlace := ["slices.overlaps[franking/api.Entry]"], unfollowed := true, recurses := true, plainKeys := false, apart := false }
def RegistryAddSpecSaid : Prop := registryAddSpecRow.holds Try.pinned (OpenSpec.ofChange registryAddSpecSpec)

/-- ITS FALSE NEIGHBOUR: 'it returns false'. Refute it at one input. -/
def registryAddSpecWrong : ChangeSpec := { name := "registryAddSpec", fn := fun _ => fun
  | [d1, d2] => { results := [.lit (.bool false)], args := [d1, d2] }
  | _ => none }
def RegistryAddSpecWrongFalsely : Prop := registryAddSpecRow.holds Try.pinned (OpenSpec.ofChange registryAddSpecWrong)

/-- 'frankinglaw33.RegistryOne': WHATEVER THE INPUT: true; the input reads as it did. -/
def registryOneSpec : ChangeSpec := { name := "registryOne", fn := fun _ => fun
  | [d1, d2, d3] => { results := [.lit (.bool true)], args := [d1, d2, d3] }
  | _ => none }
def registryOneRow : OpenClaim := { program := "ytfmefdeldgmhpaa", sum := "a490900b3bb9efb64809da7a3d40096fb6fe23a862bf0af77b3342e44762afef", func := "franking/frankinglaw33.RegistryOne", spec := "registryOne", inPlace := ["slices.overlaps[franking/api.Entry]"], unfollowed := true, recurses := true, plainKeys := false, apart := false }
def RegistryOneSaid : Prop := registryOneRow.holds Try.pinned (OpenSpec.ofChange registryOneSpec)

/-- ITS FALSE NEIGHBOUR: 'it returns false'. Refute it at one input. -/
def registryOneWrong : ChangeSpec := { name := "registryOne", fn := fun _ => fun
  | [d1, d2, d3] => { results := [.lit (.bool false)], args := [d1, d2, d3] }
  | _ => none }
def RegistryOneWrongFalsely : Prop := registryOneRow.holds Try.pinned (OpenSpec.ofChange registryOneWrong)

/-- 'frankinglaw33.RegistryOrder': WHATEVER THE INPUT: true; the input reads as it did. -/
def registryOrderSpec : ChangeSpec := { name := "registryOrder", fn := fun _ => fun
  | [d1, d2] => { results := [.lit (.bool true)], args := [d1, d2] }
  | _ => none }
def registryOrderRow : OpenClaim := { program := "ytfmefdeldgmhpaa", sum := "a490900b3bb9efb64809da7a3d40096fb6fe23a862bf0af77b3342e44762afef", func := "franking/frankinglaw33.RegistryOrder", spec := "registryOrder", inPlace := ["slices.overlaps[franking/api.Entry]"], unfollowed := true, recurses := true, plainKeys := false, apart := false }
def RegistryOrderSaid : Prop := registryOrderRow.holds Try.pinned (OpenSpec.ofChange registryOrderSpec)

/-- ITS FALSE NEIGHBOUR: 'it returns false'. Refute it at one input. -/
def registryOrderWrong : ChangeSpec := { name := "registryOrder", fn := fun _ => fun
  | [d1, d2] => { results := [.lit (.bool false)], args := [d1, d2] }
  | _ => none }
def RegistryOrderWrongFalsely : Prop := registryOrderRow.holds Try.pinned (OpenSpec.ofChange registryOrderWrong)

/-- 'frankinglaw33.RegistryIdle': WHATEVER THE INPUT: true; the input reads as it did. -/
def registryIdleSpec : ChangeSpec := { name := "registryIdle", fn := fun _ => fun
  | [d1, d2, d3] => { results := [.lit (.bool true)], args := [d1, d2, d3] }
  | _ => none }
def registryIdleRow : OpenClaim := { program := "ytfmefdeldgmhpaa", sum := "a490900b3bb9efb64809da7a3d40096fb6fe23a862bf0af77b3342e44762afef", func := "franking/frankinglaw33.RegistryIdle", spec := "registryIdle", inPlace := ["slices.overlaps[franking/api.Entry]"], unfollowed := true, recurses := true, plainKeys := false, apart := false }
def RegistryIdleSaid : Prop := registryIdleRow.holds Try.pinned (OpenSpec.ofChange registryIdleSpec)

/-- ITS FALSE NEIGHBOUR: 'it returns false'. Refute it at one input. -/
def registryIdleWrong : ChangeSpec := { name := "registryIdle", fn := fun _ => fun
  | [d1, d2, d3] => { results := [.lit (.bool false)], args := [d1, d2, d3] }
  | _ => none }
def RegistryIdleWrongFalsely : Prop := registryIdleRow.holds Try.pinned (OpenSpec.ofChange registryIdleWrong)

/-- 'frankinglaw33.RegistryOthers': WHATEVER THE INPUT: true; the input reads as it did. -/
def registryOthersSpec : ChangeSpec := { name := "registryOthers", fn := fun _ => fun
  | [d1, d2, d3, d4] => { results := [.lit (.bool true)], args := [d1, d2, d3, d4] }
  | _ => none }
def registryOthersRow : OpenClaim := { program := "ytfmefdeldgmhpaa", sum := "a490900b3bb9efb64809da7a3d40096fb6fe23a862bf0af77b3342e44762afef", func := "franking/frankinglaw33.RegistryOthers", spec := "registryOthers", inPlace := ["slices.overlaps[franking/api.Entry]"], unfollowed := true, recurses := true, plainKeys := false, apart := false }
def RegistryOthersSaid : Prop := registryOthersRow.holds Try.pinned (OpenSpec.ofChange registryOthersSpec)

/-- ITS FALSE NEIGHBOUR: 'it returns false'. Refute it at one input. -/
def registryOthersWrong : ChangeSpec := { name := "registryOthers", fn := fun _ => fun
  | [d1, d2, d3, d4] => { results := [.lit (.bool false)], args := [d1, d2, d3, d4] }
  | _ => none }
def RegistryOthersWrongFalsely : Prop := registryOthersRow.holds Try.pinned (OpenSpec.ofChange registryOthersWrong)

/-- 'frankinglaw34.HomesAppointed': WHATEVER THE INPUT: true; the input reads as it did. -/
def homesAppointedSpec : ChangeSpec := { name := "homesAppointed", fn := fun _ => fun
  | [d1, d2, d3, d4, d5] => { results := [.lit (.bool true)], args := [d1, d2, d3, d4, d5] }
  | _ => none }
def homesAppointedRow : OpenClaim := { program := "ytfmefdeldgmhpaa", sum := "a490900b3bb9efb64809da7a3d40096fb6fe23a862bf0af77b3342e44762afef", func := "franking/frankinglaw34.HomesAppointed", spec := "homesAppointed", inPlace := ["slices.overlaps[franking/api.Entry]"], unfollowed := true, recurses := true, plainKeys := false, apart := false }
def HomesAppointedSaid : Prop := homesAppointedRow.holds Try.pinned (OpenSpec.ofChange homesAppointedSpec)

/-- ITS FALSE NEIGHBOUR: 'it returns false'. Refute it at one input. -/
def homesAppointedWrong : ChangeSpec := { name := "homesAppointed", fn := fun _ => fun
  | [d1, d2, d3, d4, d5] => { results := [.lit (.bool false)], args := [d1, d2, d3, d4, d5] }
  | _ => none }
def HomesAppointedWrongFalsely : Prop := homesAppointedRow.holds Try.pinned (OpenSpec.ofChange homesAppointedWrong)

/- THE SECOND FORM. 'bulk': how many values and letters a reading holds, each counted each time it is reached (what is shared counts as often as it is met; a slice's spare places count too). A statement '..UptoSaid' is the law's where the arguments, and the package variables that the reading takes, are together of bulk at most 1048576: NARROWER than '..Said'. Prove '..Said' where nothing that the law and all that it calls make is longer than what came in: it says more and counts as full. Else prove '..UptoSaid'. A law counts once. -/
mutual
def uptoBulk {H : Type} : DataW H → Nat
  | .lit (.string bytes) => bytes.length + 1
  | .lit _ => 1
  | .nil => 1
  | .ptr d => uptoBulk d + 1
  | .slice elems spare => uptoBulkAll elems + uptoBulkAll spare + 1
  | .agg parts => uptoBulkAll parts + 1
  | .iface _ d => uptoBulk d + 1
  | .map entries => uptoBulkEntries entries + 1
  | .held _ => 1
def uptoBulkAll {H : Type} : List (DataW H) → Nat
  | [] => 0
  | d :: r => uptoBulk d + uptoBulkAll r
def uptoBulkEntries {H : Type} : List (Lit × DataW H) → Nat
  | [] => 0
  | x :: r => uptoBulkEntry x + uptoBulkEntries r
def uptoBulkEntry {H : Type} : Lit × DataW H → Nat
  | (.string bytes, d) => bytes.length + uptoBulk d + 1
  | (_, d) => uptoBulk d + 1
 end
def uptoSmall : (H : Type) → List (DataW H) → Bool := fun _ ds => decide (uptoBulkAll ds ≤ 1048576)
def OpenSpec.upto (s : _root_.Go.ChangeSpec) : _root_.Go.OpenSpec := { _root_.Go.OpenSpec.ofChange s with cond := some uptoSmall }

/-- 'frankinglaw34.HomesSpec', WHERE WHAT IT READS IS OF BULK AT MOST 1048576: true; the input reads as it did. -/
def homesSpecUptoRow : OpenClaim := { program := "ytfmefdeldgmhpaa", sum := "a490900b3bb9efb64809da7a3d40096fb6fe23a862bf0af77b3342e44762afef", func := "franking/frankinglaw34.HomesSpec", spec := "homesSpec", unfollowed := true, recurses := true, plainKeys := false, apart := false, narrowed := true }
def HomesSpecUptoSaid : Prop := homesSpecUptoRow.holds Try.pinned (OpenSpec.upto homesSpecSpec)

/-- 'frankinglaw34.HomesOnce', WHERE WHAT IT READS IS OF BULK AT MOST 1048576: true; the input reads as it did. -/
def homesOnceUptoRow : OpenClaim := { program := "ytfmefdeldgmhpaa", sum := "a490900b3bb9efb64809da7a3d40096fb6fe23a862bf0af77b3342e44762afef", func := "franking/frankinglaw34.HomesOnce", spec := "homesOnce", unfollowed := true, recurses := true, plainKeys := false, apart := false, narrowed := true }
def HomesOnceUptoSaid : Prop := homesOnceUptoRow.holds Try.pinned (OpenSpec.upto homesOnceSpec)

/-- 'frankinglaw34.HomesOthers', WHERE WHAT IT READS IS OF BULK AT MOST 1048576: true; the input reads as it did. -/
def homesOthersUptoRow : OpenClaim := { program := "ytfmefdeldgmhpaa", sum := "a490900b3bb9efb64809da7a3d40096fb6fe23a862bf0af77b3342e44762afef", func := "franking/frankinglaw34.HomesOthers", spec := "homesOthers", unfollowed := true, recurses := true, plainKeys := false, apart := false, narrowed := true }
def HomesOthersUptoSaid : Prop := homesOthersUptoRow.holds Try.pinned (OpenSpec.upto homesOthersSpec)

/-- 'frankinglaw34.HomesCounted', WHERE WHAT IT READS IS OF BULK AT MOST 1048576: true; the input reads as it did. -/
def homesCountedUptoRow : OpenClaim := { program := "ytfmefdeldgmhpaa", sum := "a490900b3bb9efb64809da7a3d40096fb6fe23a862bf0af77b3342e44762afef", func := "franking/frankinglaw34.HomesCounted", spec := "homesCounted", unfollowed := true, recurses := true, plainKeys := false, apart := false, narrowed := true }
def HomesCountedUptoSaid : Prop := homesCountedUptoRow.holds Try.pinned (OpenSpec.upto homesCountedSpec)

/-- 'frankinglaw34.HomesShared', WHERE WHAT IT READS IS OF BULK AT MOST 1048576: true; the input reads as it did. -/
def homesSharedUptoRow : OpenClaim := { program := "ytfmefdeldgmhpaa", sum := "a490900b3bb9efb64809da7a3d40096fb6fe23a862bf0af77b3342e44762afef", func := "franking/frankinglaw34.HomesShared", spec := "homesShared", unfollowed := true, recurses := true, plainKeys := false, apart := false, narrowed := true }
def HomesSharedUptoSaid : Prop := homesSharedUptoRow.holds Try.pinned (OpenSpec.upto homesSharedSpec)

/-- 'frankinglaw33.RegistrySpec', WHERE WHAT IT READS IS OF BULK AT MOST 1048576: true; the input reads as it did. -/
def registrySpecUptoRow : OpenClaim := { program := "ytfmefdeldgmhpaa", sum := "a490900b3bb9efb64809da7a3d40096fb6fe23a862bf0af77b3342e44762afef", func := "franking/frankinglaw33.RegistrySpec", spec := "registrySpec", inPlace := ["slices.overlaps[franking/api.Entry]"], unfollowed := true, recurses := true, plainKeys := false, apart := false, narrowed := true }
def RegistrySpecUptoSaid : Prop := registrySpecUptoRow.holds Try.pinned (OpenSpec.upto registrySpecSpec)

/-- 'frankinglaw33.RegistryAddSpec', WHERE WHAT IT READS IS OF BULK AT MOST 1048576: true; the input reads as it did. -/
def registryAddSpecUptoRow : OpenClaim := { program := "ytfmefdeldgmhpaa", sum := "a490900b3bb9efb64809da7a3d40096fb6fe23a862bf0af77b3342e44762afef", func := "franking/frankinglaw33.RegistryAddSpec", spec := "registryAddSpec", inPlace := ["slices.overlaps[franking/api.Entry]"], unfollowed := true, recurses := true, plainKeys := false, apart := false, narrowed := true }
def RegistryAddSpecUptoSaid : Prop := registryAddSpecUptoRow.holds Try.pinned (OpenSpec.upto registryAddSpecSpec)

/-- 'frankinglaw33.RegistryOne', WHERE WHAT IT READS IS OF BULK AT MOST 1048576: true; the input reads as it did. -/
def registryOneUptoRow : OpenClaim := { program := "ytfmefdeldgmhpaa", sum := "a490900b3bb9efb64809da7a3d40096fb6fe23a862bf0af77b3342e44762afef", func := "franking/frankinglaw33.RegistryOne", spec := "registryOne", inPlace := ["slices.overlaps[franking/api.Entry]"], unfollowed := true, recurses := true, plainKeys := false, apart := false, narrowed := true }
def RegistryOneUptoSaid : Prop := registryOneUptoRow.holds Try.pinned (OpenSpec.upto registryOneSpec)

/-- 'frankinglaw33.RegistryOrder', WHERE WHAT IT READS IS OF BULK AT MOST 1048576: true; the input reads as it did. -/
def registryOrderUptoRow : OpenClaim := { program := "ytfmefdeldgmhpaa", sum := "a490900b3bb9efb64809da7a3d40096fb6fe23a862bf0af77b3342e44762afef", func := "franking/frankinglaw33.RegistryOrder", spec := "registryOrder", inPlace := ["slices.overlaps[franking/api.Entry]"], unfollowed := true, recurses := true, plainKeys := false, apart := false, narrowed := true }
def RegistryOrderUptoSaid : Prop := registryOrderUptoRow.holds Try.pinned (OpenSpec.upto registryOrderSpec)

/-- 'frankinglaw33.RegistryIdle', WHERE WHAT IT READS IS OF BULK AT MOST 1048576: true; the input reads as it did. -/
def registryIdleUptoRow : OpenClaim := { program := "ytfmefdeldgmhpaa", sum := "a490900b3bb9efb64809da7a3d40096fb6fe23a862bf0af77b3342e44762afef", func := "franking/frankinglaw33.RegistryIdle", spec := "registryIdle", inPlace := ["slices.overlaps[franking/api.Entry]"], unfollowed := true, recurses := true, plainKeys := false, apart := false, narrowed := true }
def RegistryIdleUptoSaid : Prop := registryIdleUptoRow.holds Try.pinned (OpenSpec.upto registryIdleSpec)

/-- 'frankinglaw33.RegistryOthers', WHERE WHAT IT READS IS OF BULK AT MOST 1048576: true; the input reads as it did. -/
def registryOthersUptoRow : OpenClaim := { program := "ytfmefdeldgmhpaa", sum := "a490900b3bb9efb64809da7a3d40096fb6fe23a862bf0af77b3342e44762afef", func := "franking/frankinglaw33.RegistryOthers", spec := "registryOthers", inPlace := ["slices.overlaps[franking/api.Entry]"], unfollowed := true, recurses := true, plainKeys := false, apart := false, narrowed := true }
def RegistryOthersUptoSaid : Prop := registryOthersUptoRow.holds Try.pinned (OpenSpec.upto registryOthersSpec)

/-- 'frankinglaw34.HomesAppointed', WHERE WHAT IT READS IS OF BULK AT MOST 1048576: true; the input reads as it did. -/
def homesAppointedUptoRow : OpenClaim := { program := "ytfmefdeldgmhpaa", sum := "a490900b3bb9efb64809da7a3d40096fb6fe23a862bf0af77b3342e44762afef", func := "franking/frankinglaw34.HomesAppointed", spec := "homesAppointed", inPlace := ["slices.overlaps[franking/api.Entry]"], unfollowed := true, recurses := true, plainKeys := false, apart := false, narrowed := true }
def HomesAppointedUptoSaid : Prop := homesAppointedUptoRow.holds Try.pinned (OpenSpec.upto homesAppointedSpec)

end Rows
end Go.Proofs.Ytfmefdeldgmhpaa
