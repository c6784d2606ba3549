/-
  No cell of these rows narrows 'for every input' (looked for: loops, veiled, ifaces, maps, wideKeys, modest, calm, conditions, laid).
  DERIVED. THE GIVEN ROWS OF THIS SEAT. 7 by the template 'for every input the law returns true; each argument reads behind the call as it read before'; 0 by the template 'total and deterministic' (their statements: YtncihbmehbiekaaTotals.lean).
  GIVEN WITH THE SEED: the statements are not yours to turn. If you find one false, say at which input.
  Laid BY PROGRAM, IN A SANDBOX (cutbox-rows.mjs): the forced cells as the released guide's own fill.sh prints them over the translation f88ca4f299bc3027… (all of the seat's roots in one cut). By AI agents, Wed Nov 11 2026. No macro, syntax, notation, axiom, sorry.
-/
import Derived.Test.YtncihbmehbiekaaChecked
import GoSem.Claim
import GoSem.ClaimJoined
import GoSem.ClaimMapViews
import Derived.JoinedTies
import Derived.KernelRfl
namespace Go.Proofs.Ytncihbmehbiekaa
/- THE CELL 'sum', in the pinned program and in every row, IS THE sha256 OF THE DUMP (.gsa) THAT YtncihbmehbiekaaProg.lean LOADS. Nothing in Lean hashes anything: it is a label: what it is worth is what the hold of that sum in a sandbox is worth. -/
noncomputable def Try.pinned : Pinned := { name := "ytncihbmehbiekaa", sum := "f88ca4f299bc30276d5f3799d142449cf615cec3fd30ec0013841998aa8c72e9", checked := Try.checked }
namespace Rows
def none {H : Type} : Left H := { results := [], args := [] }

/-- 'frankinglaw26.ReachSpec': WHATEVER THE INPUT: true; the input reads as it did. -/
def reachSpecSpec : ChangeSpec := { name := "reachSpec", fn := fun _ => fun
  | [d1, d2, d3] => { results := [.lit (.bool true)], args := [d1, d2, d3] }
  | _ => none }
def reachSpecRow : OpenClaim := { program := "ytncihbmehbiekaa", sum := "f88ca4f299bc30276d5f3799d142449cf615cec3fd30ec0013841998aa8c72e9", func := "franking/frankinglaw26.ReachSpec", spec := "reachSpec", unfollowed := true, recurses := true, apart := false }
def ReachSpecSaid : Prop := reachSpecRow.holds Try.pinned (OpenSpec.ofChange reachSpecSpec)

/-- ITS FALSE NEIGHBOUR: 'it returns false'. Refute it at one input. -/
def reachSpecWrong : ChangeSpec := { name := "reachSpec", fn := fun _ => fun
  | [d1, d2, d3] => { results := [.lit (.bool false)], args := [d1, d2, d3] }
  | _ => none }
def ReachSpecWrongFalsely : Prop := reachSpecRow.holds Try.pinned (OpenSpec.ofChange reachSpecWrong)

/-- 'frankinglaw26.ReachMatrix': WHATEVER THE INPUT: true; the input reads as it did. -/
def reachMatrixSpec : ChangeSpec := { name := "reachMatrix", fn := fun _ => fun
  | [d] => { results := [.lit (.bool true)], args := [d] }
  | _ => none }
def reachMatrixRow : OpenClaim := { program := "ytncihbmehbiekaa", sum := "f88ca4f299bc30276d5f3799d142449cf615cec3fd30ec0013841998aa8c72e9", func := "franking/frankinglaw26.ReachMatrix", spec := "reachMatrix", unfollowed := true, recurses := true, apart := false }
def ReachMatrixSaid : Prop := reachMatrixRow.holds Try.pinned (OpenSpec.ofChange reachMatrixSpec)

/-- ITS FALSE NEIGHBOUR: 'it returns false'. Refute it at one input. -/
def reachMatrixWrong : ChangeSpec := { name := "reachMatrix", fn := fun _ => fun
  | [d] => { results := [.lit (.bool false)], args := [d] }
  | _ => none }
def ReachMatrixWrongFalsely : Prop := reachMatrixRow.holds Try.pinned (OpenSpec.ofChange reachMatrixWrong)

/-- 'frankinglaw26.ReachGrows': WHATEVER THE INPUT: true; the input reads as it did. -/
def reachGrowsSpec : ChangeSpec := { name := "reachGrows", fn := fun _ => fun
  | [d1, d2] => { results := [.lit (.bool true)], args := [d1, d2] }
  | _ => none }
def reachGrowsRow : OpenClaim := { program := "ytncihbmehbiekaa", sum := "f88ca4f299bc30276d5f3799d142449cf615cec3fd30ec0013841998aa8c72e9", func := "franking/frankinglaw26.ReachGrows", spec := "reachGrows", unfollowed := true, recurses := true, apart := false }
def ReachGrowsSaid : Prop := reachGrowsRow.holds Try.pinned (OpenSpec.ofChange reachGrowsSpec)

/-- ITS FALSE NEIGHBOUR: 'it returns false'. Refute it at one input. -/
def reachGrowsWrong : ChangeSpec := { name := "reachGrows", fn := fun _ => fun
  | [d1, d2] => { results := [.lit (.bool false)], args := [d1, d2] }
  | _ => none }
def ReachGrowsWrongFalsely : Prop := reachGrowsRow.holds Try.pinned (OpenSpec.ofChange reachGrowsWrong)

/-- 'frankinglaw26.ReachWays': WHATEVER THE INPUT: true; the input reads as it did. -/
def reachWaysSpec : ChangeSpec := { name := "reachWays", fn := fun _ => fun
  | [d1, d2] => { results := [.lit (.bool true)], args := [d1, d2] }
  | _ => none }
def reachWaysRow : OpenClaim := { program := "ytncihbmehbiekaa", sum := "f88ca4f299bc30276d5f3799d142449cf615cec3fd30ec0013841998aa8c72e9", func := "franking/frankinglaw26.ReachWays", spec := "reachWays", unfollowed := true, recurses := true, apart := false }
def ReachWaysSaid : Prop := reachWaysRow.holds Try.pinned (OpenSpec.ofChange reachWaysSpec)

/-- ITS FALSE NEIGHBOUR: 'it returns false'. Refute it at one input. -/
def reachWaysWrong : ChangeSpec := { name := "reachWays", fn := fun _ => fun
  | [d1, d2] => { results := [.lit (.bool false)], args := [d1, d2] }
  | _ => none }
def ReachWaysWrongFalsely : Prop := reachWaysRow.holds Try.pinned (OpenSpec.ofChange reachWaysWrong)

/-- 'frankinglaw26.ReachAll': WHATEVER THE INPUT: true; the input reads as it did. -/
def reachAllSpec : ChangeSpec := { name := "reachAll", fn := fun _ => fun
  | [d1, d2] => { results := [.lit (.bool true)], args := [d1, d2] }
  | _ => none }
def reachAllRow : OpenClaim := { program := "ytncihbmehbiekaa", sum := "f88ca4f299bc30276d5f3799d142449cf615cec3fd30ec0013841998aa8c72e9", func := "franking/frankinglaw26.ReachAll", spec := "reachAll", unfollowed := true, recurses := true, apart := false }
def ReachAllSaid : Prop := reachAllRow.holds Try.pinned (OpenSpec.ofChange reachAllSpec)

/-- ITS FALSE NEIGHBOUR: 'it returns false'. Refute it at one input. -/
def reachAllWrong : ChangeSpec := { name := "reachAll", fn := fun _ => fun
  | [d1, d2] => { results := [.lit (.bool false)], args := [d1, d2] }
  | _ => none }
def ReachAllWrongFalsely : Prop := reachAllRow.holds Try.pinned (OpenSpec.ofChange reachAllWrong)

/-- 'frankinglaw26.ReachKnown': WHATEVER THE INPUT: true; the input reads as it did. -/
def reachKnownSpec : ChangeSpec := { name := "reachKnown", fn := fun _ => fun
  | [d1, d2] => { results := [.lit (.bool true)], args := [d1, d2] }
  | _ => none }
def reachKnownRow : OpenClaim := { program := "ytncihbmehbiekaa", sum := "f88ca4f299bc30276d5f3799d142449cf615cec3fd30ec0013841998aa8c72e9", func := "franking/frankinglaw26.ReachKnown", spec := "reachKnown", unfollowed := true, recurses := true, apart := false }
def ReachKnownSaid : Prop := reachKnownRow.holds Try.pinned (OpenSpec.ofChange reachKnownSpec)

/-- ITS FALSE NEIGHBOUR: 'it returns false'. Refute it at one input. -/
def reachKnownWrong : ChangeSpec := { name := "reachKnown", fn := fun _ => fun
  | [d1, d2] => { results := [.lit (.bool false)], args := [d1, d2] }
  | _ => none }
def ReachKnownWrongFalsely : Prop := reachKnownRow.holds Try.pinned (OpenSpec.ofChange reachKnownWrong)

/-- 'frankinglaw26.ReachLess': WHATEVER THE INPUT: true; the input reads as it did. -/
def reachLessSpec : ChangeSpec := { name := "reachLess", fn := fun _ => fun
  | [d1, d2, d3, d4, d5, d6] => { results := [.lit (.bool true)], args := [d1, d2, d3, d4, d5, d6] }
  | _ => none }
def reachLessRow : OpenClaim := { program := "ytncihbmehbiekaa", sum := "f88ca4f299bc30276d5f3799d142449cf615cec3fd30ec0013841998aa8c72e9", func := "franking/frankinglaw26.ReachLess", spec := "reachLess", unfollowed := true, recurses := true, apart := false }
def ReachLessSaid : Prop := reachLessRow.holds Try.pinned (OpenSpec.ofChange reachLessSpec)

/-- ITS FALSE NEIGHBOUR: 'it returns false'. Refute it at one input. -/
def reachLessWrong : ChangeSpec := { name := "reachLess", fn := fun _ => fun
  | [d1, d2, d3, d4, d5, d6] => { results := [.lit (.bool false)], args := [d1, d2, d3, d4, d5, d6] }
  | _ => none }
def ReachLessWrongFalsely : Prop := reachLessRow.holds Try.pinned (OpenSpec.ofChange reachLessWrong)

/- THE SECOND FORM. 'bulk': how many values and letters a reading holds, each counted each time it is reached (what is shared counts as often as it is met; a slice's spare places count too). A statement '..UptoSaid' is the law's where the arguments, and the package variables that the reading takes, are together of bulk at most 1048576: NARROWER than '..Said'. Prove '..Said' where nothing that the law and all that it calls make is longer than what came in: it says more and counts as full. Else prove '..UptoSaid'. A law counts once. -/
mutual
def uptoBulk {H : Type} : DataW H → Nat
  | .lit (.string bytes) => bytes.length + 1
  | .lit _ => 1
  | .nil => 1
  | .ptr d => uptoBulk d + 1
  | .slice elems spare => uptoBulkAll elems + uptoBulkAll spare + 1
  | .agg parts => uptoBulkAll parts + 1
  | .iface _ d => uptoBulk d + 1
  | .map entries => uptoBulkEntries entries + 1
  | .held _ => 1
def uptoBulkAll {H : Type} : List (DataW H) → Nat
  | [] => 0
  | d :: r => uptoBulk d + uptoBulkAll r
def uptoBulkEntries {H : Type} : List (Lit × DataW H) → Nat
  | [] => 0
  | x :: r => uptoBulkEntry x + uptoBulkEntries r
def uptoBulkEntry {H : Type} : Lit × DataW H → Nat
  | (.string bytes, d) => bytes.length + uptoBulk d + 1
  | (_, d) => uptoBulk d + 1
 end
def uptoSmall : (H : Type) → List (DataW H) → Bool := fun _ ds => decide (uptoBulkAll ds ≤ 1048576)
def OpenSpec.upto (s : _root_.Go.ChangeSpec) : _root_.Go.OpenSpec := { _root_.Go.OpenSpec.ofChange s with cond := some uptoSmall }

/-- 'frankinglaw26.ReachSpec', WHERE WHAT IT READS IS OF BULK AT MOST 1048576: true; the input reads as it did. -/
def reachSpecUptoRow : OpenClaim := { program := "ytncihbmehbiekaa", sum := "f88ca4f299bc30276d5f3799d142449cf615cec3fd30ec0013841998aa8c72e9", func := "franking/frankinglaw26.ReachSpec", spec := "reachSpec", unfollowed := true, recurses := true, apart := false, narrowed := true }
def ReachSpecUptoSaid : Prop := reachSpecUptoRow.holds Try.pinned (OpenSpec.upto reachSpecSpec)

/-- 'frankinglaw26.ReachMatrix', WHERE WHAT IT READS IS OF BULK AT MOST 1048576: true; the input reads as it did. -/
def reachMatrixUptoRow : OpenClaim := { program := "ytncihbmehbiekaa", sum := "f88ca4f299bc30276d5f3799d142449cf615cec3fd30ec0013841998aa8c72e9", func := "franking/frankinglaw26.ReachMatrix", spec := "reachMatrix", unfollowed := true, recurses := true, apart := false, narrowed := true }
def ReachMatrixUptoSaid : Prop := reachMatrixUptoRow.holds Try.pinned (OpenSpec.upto reachMatrixSpec)

/-- 'frankinglaw26.ReachGrows', WHERE WHAT IT READS IS OF BULK AT MOST 1048576: true; the input reads as it did. -/
def reachGrowsUptoRow : OpenClaim := { program := "ytncihbmehbiekaa", sum := "f88ca4f299bc30276d5f3799d142449cf615cec3fd30ec0013841998aa8c72e9", func := "franking/frankinglaw26.ReachGrows", spec := "reachGrows", unfollowed := true, recurses := true, apart := false, narrowed := true }
def ReachGrowsUptoSaid : Prop := reachGrowsUptoRow.holds Try.pinned (OpenSpec.upto reachGrowsSpec)

/-- 'frankinglaw26.ReachWays', WHERE WHAT IT READS IS OF BULK AT MOST 1048576: true; the input reads as it did. -/
def reachWaysUptoRow : OpenClaim := { program := "ytncihbmehbiekaa", sum := "f88ca4f299bc30276d5f3799d142449cf615cec3fd30ec0013841998aa8c72e9", func := "franking/frankinglaw26.ReachWays", spec := "reachWays", unfollowed := true, recurses := true, apart := false, narrowed := true }
def ReachWaysUptoSaid : Prop := reachWaysUptoRow.holds Try.pinned (OpenSpec.upto reachWaysSpec)

/-- 'frankinglaw26.ReachAll', WHERE WHAT IT READS IS OF BULK AT MOST 1048576: true; the input reads as it did. -/
def reachAllUptoRow : OpenClaim := { program := "ytncihbmehbiekaa", sum := "f88ca4f299bc30276d5f3799d142449cf615cec3fd30ec0013841998aa8c72e9", func := "franking/frankinglaw26.ReachAll", spec := "reachAll", unfollowed := true, recurses := true, apart := false, narrowed := true }
def ReachAllUptoSaid : Prop := reachAllUptoRow.holds Try.pinned (OpenSpec.upto reachAllSpec)

/-- 'frankinglaw26.ReachKnown', WHERE WHAT IT READS IS OF BULK AT MOST 1048576: true; the input reads as it did. -/
def reachKnownUptoRow : OpenClaim := { program := "ytncihbmehbiekaa", sum := "f88ca4f299bc30276d5f3799d142449cf615cec3fd30ec0013841998aa8c72e9", func := "franking/frankinglaw26.ReachKnown", spec := "reachKnown", unfollowed := true, recurses := true, apart := false, narrowed := true }
def ReachKnownUptoSaid : Prop := reachKnownUptoRow.holds Try.pinned (OpenSpec.upto reachKnownSpec)

/-- 'frankinglaw26.ReachLess', WHERE WHAT IT READS IS OF BULK AT MOST 1048576: true; the input reads as it did. -/
def reachLessUptoRow : OpenClaim := { program := "ytncihbmehbiekaa", sum := "f88ca4f299bc30276d5f3799d142449cf615cec3fd30ec0013841998aa8c72e9", func := "franking/frankinglaw26.ReachLess", spec := "reachLess", unfollowed := true, recurses := true, apart := false, narrowed := true }
def ReachLessUptoSaid : Prop := reachLessUptoRow.holds Try.pinned (OpenSpec.upto reachLessSpec)

end Rows
end Go.Proofs.Ytncihbmehbiekaa
