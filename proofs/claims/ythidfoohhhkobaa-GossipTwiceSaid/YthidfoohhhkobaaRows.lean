/-
  No cell of these rows narrows 'for every input' (looked for: loops, veiled, ifaces, maps, wideKeys, modest, calm, conditions, laid).
  DERIVED. THE GIVEN ROWS OF THIS SEAT. 4 by the template 'for every input the law returns true; each argument reads behind the call as it read before'; 0 by the template 'total and deterministic' (their statements: YthidfoohhhkobaaTotals.lean).
  GIVEN WITH THE SEED: the statements are not yours to turn. If you find one false, say at which input.
  Laid BY PROGRAM, IN A SANDBOX (cutbox-rows.mjs): the forced cells as the released guide's own fill.sh prints them over the translation 4a3b4578ea1b4aaf… (all of the seat's roots in one cut). By AI agents, Wed Nov 11 2026. No macro, syntax, notation, axiom, sorry.
-/
import Derived.Test.YthidfoohhhkobaaChecked
import GoSem.Claim
import GoSem.ClaimJoined
import GoSem.ClaimMapViews
import Derived.JoinedTies
import Derived.KernelRfl
namespace Go.Proofs.Ythidfoohhhkobaa
/- THE CELL 'sum', in the pinned program and in every row, IS THE sha256 OF THE DUMP (.gsa) THAT YthidfoohhhkobaaProg.lean LOADS. Nothing in Lean hashes anything: it is a label: what it is worth is what the hold of that sum in a sandbox is worth. -/
noncomputable def Try.pinned : Pinned := { name := "ythidfoohhhkobaa", sum := "4a3b4578ea1b4aaf84a5d1b236a19a25fe18bf4990a616d2dcf86e9d70ba55c5", checked := Try.checked }
namespace Rows
def none {H : Type} : Left H := { results := [], args := [] }

/-- 'frankinglaw54.GossipOrder': WHATEVER THE INPUT: true; the input reads as it did. -/
def gossipOrderSpec : ChangeSpec := { name := "gossipOrder", fn := fun _ => fun
  | [d1, d2, d3] => { results := [.lit (.bool true)], args := [d1, d2, d3] }
  | _ => none }
def gossipOrderRow : OpenClaim := { program := "ythidfoohhhkobaa", sum := "4a3b4578ea1b4aaf84a5d1b236a19a25fe18bf4990a616d2dcf86e9d70ba55c5", func := "franking/frankinglaw54.GossipOrder", spec := "gossipOrder", inPlace := ["internal/bytealg.abigen_runtime_cmpstring", "slices.overlaps[franking/api.Hand]"], unfollowed := true, recurses := true, apart := false }
def GossipOrderSaid : Prop := gossipOrderRow.holds Try.pinned (OpenSpec.ofChange gossipOrderSpec)

/-- ITS FALSE NEIGHBOUR: 'it returns false'. Refute it at one input. -/
def gossipOrderWrong : ChangeSpec := { name := "gossipOrder", fn := fun _ => fun
  | [d1, d2, d3] => { results := [.lit (.bool false)], args := [d1, d2, d3] }
  | _ => none }
def GossipOrderWrongFalsely : Prop := gossipOrderRow.holds Try.pinned (OpenSpec.ofChange gossipOrderWrong)

/-- 'frankinglaw54.GossipTwice': WHATEVER THE INPUT: true; the input reads as it did. -/
def gossipTwiceSpec : ChangeSpec := { name := "gossipTwice", fn := fun _ => fun
  | [d1, d2, d3, d4] => { results := [.lit (.bool true)], args := [d1, d2, d3, d4] }
  | _ => none }
def gossipTwiceRow : OpenClaim := { program := "ythidfoohhhkobaa", sum := "4a3b4578ea1b4aaf84a5d1b236a19a25fe18bf4990a616d2dcf86e9d70ba55c5", func := "franking/frankinglaw54.GossipTwice", spec := "gossipTwice", inPlace := ["internal/bytealg.abigen_runtime_cmpstring", "slices.overlaps[franking/api.Hand]"], unfollowed := true, recurses := true, apart := false }
def GossipTwiceSaid : Prop := gossipTwiceRow.holds Try.pinned (OpenSpec.ofChange gossipTwiceSpec)

/-- ITS FALSE NEIGHBOUR: 'it returns false'. Refute it at one input. -/
def gossipTwiceWrong : ChangeSpec := { name := "gossipTwice", fn := fun _ => fun
  | [d1, d2, d3, d4] => { results := [.lit (.bool false)], args := [d1, d2, d3, d4] }
  | _ => none }
def GossipTwiceWrongFalsely : Prop := gossipTwiceRow.holds Try.pinned (OpenSpec.ofChange gossipTwiceWrong)

/-- 'frankinglaw54.GossipConverge': WHATEVER THE INPUT: true; the input reads as it did. -/
def gossipConvergeSpec : ChangeSpec := { name := "gossipConverge", fn := fun _ => fun
  | [d1, d2, d3] => { results := [.lit (.bool true)], args := [d1, d2, d3] }
  | _ => none }
def gossipConvergeRow : OpenClaim := { program := "ythidfoohhhkobaa", sum := "4a3b4578ea1b4aaf84a5d1b236a19a25fe18bf4990a616d2dcf86e9d70ba55c5", func := "franking/frankinglaw54.GossipConverge", spec := "gossipConverge", inPlace := ["internal/bytealg.abigen_runtime_cmpstring", "slices.overlaps[franking/api.Hand]"], unfollowed := true, recurses := true, apart := false }
def GossipConvergeSaid : Prop := gossipConvergeRow.holds Try.pinned (OpenSpec.ofChange gossipConvergeSpec)

/-- ITS FALSE NEIGHBOUR: 'it returns false'. Refute it at one input. -/
def gossipConvergeWrong : ChangeSpec := { name := "gossipConverge", fn := fun _ => fun
  | [d1, d2, d3] => { results := [.lit (.bool false)], args := [d1, d2, d3] }
  | _ => none }
def GossipConvergeWrongFalsely : Prop := gossipConvergeRow.holds Try.pinned (OpenSpec.ofChange gossipConvergeWrong)

/-- 'frankinglaw54.GossipKnown': WHATEVER THE INPUT: true; the input reads as it did. -/
def gossipKnownSpec : ChangeSpec := { name := "gossipKnown", fn := fun _ => fun
  | [d1, d2] => { results := [.lit (.bool true)], args := [d1, d2] }
  | _ => none }
def gossipKnownRow : OpenClaim := { program := "ythidfoohhhkobaa", sum := "4a3b4578ea1b4aaf84a5d1b236a19a25fe18bf4990a616d2dcf86e9d70ba55c5", func := "franking/frankinglaw54.GossipKnown", spec := "gossipKnown", inPlace := ["internal/bytealg.abigen_runtime_cmpstring", "slices.overlaps[franking/api.Hand]"], unfollowed := true, recurses := true, apart := false }
def GossipKnownSaid : Prop := gossipKnownRow.holds Try.pinned (OpenSpec.ofChange gossipKnownSpec)

/-- ITS FALSE NEIGHBOUR: 'it returns false'. Refute it at one input. -/
def gossipKnownWrong : ChangeSpec := { name := "gossipKnown", fn := fun _ => fun
  | [d1, d2] => { results := [.lit (.bool false)], args := [d1, d2] }
  | _ => none }
def GossipKnownWrongFalsely : Prop := gossipKnownRow.holds Try.pinned (OpenSpec.ofChange gossipKnownWrong)

/- THE SECOND FORM. 'bulk': how many values and letters a reading holds, each counted each time it is reached (what is shared counts as often as it is met; a slice's spare places count too). A statement '..UptoSaid' is the law's where the arguments, and the package variables that the reading takes, are together of bulk at most 1048576: NARROWER than '..Said'. Prove '..Said' where nothing that the law and all that it calls make is longer than what came in: it says more and counts as full. Else prove '..UptoSaid'. A law counts once. -/
mutual
def uptoBulk {H : Type} : DataW H → Nat
  | .lit (.string bytes) => bytes.length + 1
  | .lit _ => 1
  | .nil => 1
  | .ptr d => uptoBulk d + 1
  | .slice elems spare => uptoBulkAll elems + uptoBulkAll spare + 1
  | .agg parts => uptoBulkAll parts + 1
  | .iface _ d => uptoBulk d + 1
  | .map entries => uptoBulkEntries entries + 1
  | .held _ => 1
def uptoBulkAll {H : Type} : List (DataW H) → Nat
  | [] => 0
  | d :: r => uptoBulk d + uptoBulkAll r
def uptoBulkEntries {H : Type} : List (Lit × DataW H) → Nat
  | [] => 0
  | x :: r => uptoBulkEntry x + uptoBulkEntries r
def uptoBulkEntry {H : Type} : Lit × DataW H → Nat
  | (.string bytes, d) => bytes.length + uptoBulk d + 1
  | (_, d) => uptoBulk d + 1
 end
def uptoSmall : (H : Type) → List (DataW H) → Bool := fun _ ds => decide (uptoBulkAll ds ≤ 1048576)
def OpenSpec.upto (s : _root_.Go.ChangeSpec) : _root_.Go.OpenSpec := { _root_.Go.OpenSpec.ofChange s with cond := some uptoSmall }

/-- 'frankinglaw54.GossipOrder', WHERE WHAT IT READS IS OF BULK AT MOST 1048576: true; the input reads as it did. -/
def gossipOrderUptoRow : OpenClaim := { program := "ythidfoohhhkobaa", sum := "4a3b4578ea1b4aaf84a5d1b236a19a25fe18bf4990a616d2dcf86e9d70ba55c5", func := "franking/frankinglaw54.GossipOrder", spec := "gossipOrder", inPlace := ["internal/bytealg.abigen_runtime_cmpstring", "slices.overlaps[franking/api.Hand]"], unfollowed := true, recurses := true, apart := false, narrowed := true }
def GossipOrderUptoSaid : Prop := gossipOrderUptoRow.holds Try.pinned (OpenSpec.upto gossipOrderSpec)

/-- 'frankinglaw54.GossipTwice', WHERE WHAT IT READS IS OF BULK AT MOST 1048576: true; the input reads as it did. -/
def gossipTwiceUptoRow : OpenClaim := { program := "ythidfoohhhkobaa", sum := "4a3b4578ea1b4aaf84a5d1b236a19a25fe18bf4990a616d2dcf86e9d70ba55c5", func := "franking/frankinglaw54.GossipTwice", spec := "gossipTwice", inPlace := ["internal/bytealg.abigen_runtime_cmpstring", "slices.overlaps[franking/api.Hand]"], unfollowed := true, recurses := true, apart := false, narrowed := true }
def GossipTwiceUptoSaid : Prop := gossipTwiceUptoRow.holds Try.pinned (OpenSpec.upto gossipTwiceSpec)

/-- 'frankinglaw54.GossipConverge', WHERE WHAT IT READS IS OF BULK AT MOST 1048576: true; the input reads as it did. -/
def gossipConvergeUptoRow : OpenClaim := { program := "ythidfoohhhkobaa", sum := "4a3b4578ea1b4aaf84a5d1b236a19a25fe18bf4990a616d2dcf86e9d70ba55c5", func := "franking/frankinglaw54.GossipConverge", spec := "gossipConverge", inPlace := ["internal/bytealg.abigen_runtime_cmpstring", "slices.overlaps[franking/api.Hand]"], unfollowed := true, recurses := true, apart := false, narrowed := true }
def GossipConvergeUptoSaid : Prop := gossipConvergeUptoRow.holds Try.pinned (OpenSpec.upto gossipConvergeSpec)

/-- 'frankinglaw54.GossipKnown', WHERE WHAT IT READS IS OF BULK AT MOST 1048576: true; the input reads as it did. -/
def gossipKnownUptoRow : OpenClaim := { program := "ythidfoohhhkobaa", sum := "4a3b4578ea1b4aaf84a5d1b236a19a25fe18bf4990a616d2dcf86e9d70ba55c5", func := "franking/frankinglaw54.GossipKnown", spec := "gossipKnown", inPlace := ["internal/bytealg.abigen_runtime_cmpstring", "slices.overlaps[franking/api.Hand]"], unfollowed := true, recurses := true, apart := false, narrowed := true }
def GossipKnownUptoSaid : Prop := gossipKnownUptoRow.holds Try.pinned (OpenSpec.upto gossipKnownSpec)

end Rows
end Go.Proofs.Ythidfoohhhkobaa
