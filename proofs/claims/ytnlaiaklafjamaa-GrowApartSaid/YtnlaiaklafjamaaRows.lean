/-
  No cell of these rows narrows 'for every input' (looked for: loops, veiled, ifaces, maps, wideKeys, modest, calm, conditions, laid).
  DERIVED. THE GIVEN ROWS OF THIS SEAT. 5 by the template 'for every input the law returns true; each argument reads behind the call as it read before'; 0 by the template 'total and deterministic' (their statements: YtnlaiaklafjamaaTotals.lean).
  GIVEN WITH THE SEED: the statements are not yours to turn. If you find one false, say at which input.
  Laid BY PROGRAM, IN A SANDBOX (cutbox-rows.mjs): the forced cells as the released guide's own fill.sh prints them over the translation bfbb08481e0bdbf2… (all of the seat's roots in one cut). By AI agents, Wed Nov 11 2026. No macro, syntax, notation, axiom, sorry.
-/
import Derived.Test.YtnlaiaklafjamaaChecked
import GoSem.Claim
import GoSem.ClaimJoined
import GoSem.ClaimMapViews
import Derived.JoinedTies
import Derived.KernelRfl
namespace Go.Proofs.Ytnlaiaklafjamaa
/- THE CELL 'sum', in the pinned program and in every row, IS THE sha256 OF THE DUMP (.gsa) THAT YtnlaiaklafjamaaProg.lean LOADS. Nothing in Lean hashes anything: it is a label: what it is worth is what the hold of that sum in a sandbox is worth. -/
noncomputable def Try.pinned : Pinned := { name := "ytnlaiaklafjamaa", sum := "bfbb08481e0bdbf29aadf5c75fa71e984cc544f1fa9f363a87b579f1a1fe8865", checked := Try.checked }
namespace Rows
def none {H : Type} : Left H := { results := [], args := [] }

/-- 'frankinglaw30.GrowSpec': WHATEVER THE INPUT: true; the input reads as it did. -/
def growSpecSpec : ChangeSpec := { name := "growSpec", fn := fun _ => fun
  | [d1, d2, d3] => { results := [.lit (.bool true)], args := [d1, d2, d3] }
  | _ => none }
def growSpecRow : OpenClaim := { program := "ytnlaiaklafjamaa", sum := "bfbb08481e0bdbf29aadf5c75fa71e984cc544f1fa9f363a87b579f1a1fe8865", func := "franking/frankinglaw30.GrowSpec", spec := "growSpec", unfollowed := true, recurses := true, apart := false }
def GrowSpecSaid : Prop := growSpecRow.holds Try.pinned (OpenSpec.ofChange growSpecSpec)

/-- ITS FALSE NEIGHBOUR: 'it returns false'. Refute it at one input. -/
def growSpecWrong : ChangeSpec := { name := "growSpec", fn := fun _ => fun
  | [d1, d2, d3] => { results := [.lit (.bool false)], args := [d1, d2, d3] }
  | _ => none }
def GrowSpecWrongFalsely : Prop := growSpecRow.holds Try.pinned (OpenSpec.ofChange growSpecWrong)

/-- 'frankinglaw30.GrowAnew': WHATEVER THE INPUT: true; the input reads as it did. -/
def growAnewSpec : ChangeSpec := { name := "growAnew", fn := fun _ => fun
  | [d1, d2] => { results := [.lit (.bool true)], args := [d1, d2] }
  | _ => none }
def growAnewRow : OpenClaim := { program := "ytnlaiaklafjamaa", sum := "bfbb08481e0bdbf29aadf5c75fa71e984cc544f1fa9f363a87b579f1a1fe8865", func := "franking/frankinglaw30.GrowAnew", spec := "growAnew", unfollowed := true, recurses := true, apart := false }
def GrowAnewSaid : Prop := growAnewRow.holds Try.pinned (OpenSpec.ofChange growAnewSpec)

/-- ITS FALSE NEIGHBOUR: 'it returns false'. Refute it at one input. -/
def growAnewWrong : ChangeSpec := { name := "growAnew", fn := fun _ => fun
  | [d1, d2] => { results := [.lit (.bool false)], args := [d1, d2] }
  | _ => none }
def GrowAnewWrongFalsely : Prop := growAnewRow.holds Try.pinned (OpenSpec.ofChange growAnewWrong)

/-- 'frankinglaw30.GrowChanged': WHATEVER THE INPUT: true; the input reads as it did. -/
def growChangedSpec : ChangeSpec := { name := "growChanged", fn := fun _ => fun
  | [d1, d2] => { results := [.lit (.bool true)], args := [d1, d2] }
  | _ => none }
def growChangedRow : OpenClaim := { program := "ytnlaiaklafjamaa", sum := "bfbb08481e0bdbf29aadf5c75fa71e984cc544f1fa9f363a87b579f1a1fe8865", func := "franking/frankinglaw30.GrowChanged", spec := "growChanged", unfollowed := true, recurses := true, apart := false }
def GrowChangedSaid : Prop := growChangedRow.holds Try.pinned (OpenSpec.ofChange growChangedSpec)

/-- ITS FALSE NEIGHBOUR: 'it returns false'. Refute it at one input. -/
def growChangedWrong : ChangeSpec := { name := "growChanged", fn := fun _ => fun
  | [d1, d2] => { results := [.lit (.bool false)], args := [d1, d2] }
  | _ => none }
def GrowChangedWrongFalsely : Prop := growChangedRow.holds Try.pinned (OpenSpec.ofChange growChangedWrong)

/-- 'frankinglaw30.GrowForged': WHATEVER THE INPUT: true; the input reads as it did. -/
def growForgedSpec : ChangeSpec := { name := "growForged", fn := fun _ => fun
  | [d1, d2, d3] => { results := [.lit (.bool true)], args := [d1, d2, d3] }
  | _ => none }
def growForgedRow : OpenClaim := { program := "ytnlaiaklafjamaa", sum := "bfbb08481e0bdbf29aadf5c75fa71e984cc544f1fa9f363a87b579f1a1fe8865", func := "franking/frankinglaw30.GrowForged", spec := "growForged", unfollowed := true, recurses := true, apart := false }
def GrowForgedSaid : Prop := growForgedRow.holds Try.pinned (OpenSpec.ofChange growForgedSpec)

/-- ITS FALSE NEIGHBOUR: 'it returns false'. Refute it at one input. -/
def growForgedWrong : ChangeSpec := { name := "growForged", fn := fun _ => fun
  | [d1, d2, d3] => { results := [.lit (.bool false)], args := [d1, d2, d3] }
  | _ => none }
def GrowForgedWrongFalsely : Prop := growForgedRow.holds Try.pinned (OpenSpec.ofChange growForgedWrong)

/-- 'frankinglaw30.GrowApart': WHATEVER THE INPUT: true; the input reads as it did. -/
def growApartSpec : ChangeSpec := { name := "growApart", fn := fun _ => fun
  | [d1, d2, d3] => { results := [.lit (.bool true)], args := [d1, d2, d3] }
  | _ => none }
def growApartRow : OpenClaim := { program := "ytnlaiaklafjamaa", sum := "bfbb08481e0bdbf29aadf5c75fa71e984cc544f1fa9f363a87b579f1a1fe8865", func := "franking/frankinglaw30.GrowApart", spec := "growApart", unfollowed := true, recurses := true, apart := false }
def GrowApartSaid : Prop := growApartRow.holds Try.pinned (OpenSpec.ofChange growApartSpec)

/-- ITS FALSE NEIGHBOUR: 'it returns false'. Refute it at one input. -/
def growApartWrong : ChangeSpec := { name := "growApart", fn := fun _ => fun
  | [d1, d2, d3] => { results := [.lit (.bool false)], args := [d1, d2, d3] }
  | _ => none }
def GrowApartWrongFalsely : Prop := growApartRow.holds Try.pinned (OpenSpec.ofChange growApartWrong)

/- THE SECOND FORM. 'bulk': how many values and letters a reading holds, each counted each time it is reached (what is shared counts as often as it is met; a slice's spare places count too). A statement '..UptoSaid' is the law's where the arguments, and the package variables that the reading takes, are together of bulk at most 1048576: NARROWER than '..Said'. Prove '..Said' where nothing that the law and all that it calls make is longer than what came in: it says more and counts as full. Else prove '..UptoSaid'. A law counts once. -/
mutual
def uptoBulk {H : Type} : DataW H → Nat
  | .lit (.string bytes) => bytes.length + 1
  | .lit _ => 1
  | .nil => 1
  | .ptr d => uptoBulk d + 1
  | .slice elems spare => uptoBulkAll elems + uptoBulkAll spare + 1
  | .agg parts => uptoBulkAll parts + 1
  | .iface _ d => uptoBulk d + 1
  | .map entries => uptoBulkEntries entries + 1
  | .held _ => 1
def uptoBulkAll {H : Type} : List (DataW H) → Nat
  | [] => 0
  | d :: r => uptoBulk d + uptoBulkAll r
def uptoBulkEntries {H : Type} : List (Lit × DataW H) → Nat
  | [] => 0
  | x :: r => uptoBulkEntry x + uptoBulkEntries r
def uptoBulkEntry {H : Type} : Lit × DataW H → Nat
  | (.string bytes, d) => bytes.length + uptoBulk d + 1
  | (_, d) => uptoBulk d + 1
 end
def uptoSmall : (H : Type) → List (DataW H) → Bool := fun _ ds => decide (uptoBulkAll ds ≤ 1048576)
def OpenSpec.upto (s : _root_.Go.ChangeSpec) : _root_.Go.OpenSpec := { _root_.Go.OpenSpec.ofChange s with cond := some uptoSmall }

/-- 'frankinglaw30.GrowSpec', WHERE WHAT IT READS IS OF BULK AT MOST 1048576: true; the input reads as it did. -/
def growSpecUptoRow : OpenClaim := { program := "ytnlaiaklafjamaa", sum := "bfbb08481e0bdbf29aadf5c75fa71e984cc544f1fa9f363a87b579f1a1fe8865", func := "franking/frankinglaw30.GrowSpec", spec := "growSpec", unfollowed := true, recurses := true, apart := false, narrowed := true }
def GrowSpecUptoSaid : Prop := growSpecUptoRow.holds Try.pinned (OpenSpec.upto growSpecSpec)

/-- 'frankinglaw30.GrowAnew', WHERE WHAT IT READS IS OF BULK AT MOST 1048576: true; the input reads as it did. -/
def growAnewUptoRow : OpenClaim := { program := "ytnlaiaklafjamaa", sum := "bfbb08481e0bdbf29aadf5c75fa71e984cc544f1fa9f363a87b579f1a1fe8865", func := "franking/frankinglaw30.GrowAnew", spec := "growAnew", unfollowed := true, recurses := true, apart := false, narrowed := true }
def GrowAnewUptoSaid : Prop := growAnewUptoRow.holds Try.pinned (OpenSpec.upto growAnewSpec)

/-- 'frankinglaw30.GrowChanged', WHERE WHAT IT READS IS OF BULK AT MOST 1048576: true; the input reads as it did. -/
def growChangedUptoRow : OpenClaim := { program := "ytnlaiaklafjamaa", sum := "bfbb08481e0bdbf29aadf5c75fa71e984cc544f1fa9f363a87b579f1a1fe8865", func := "franking/frankinglaw30.GrowChanged", spec := "growChanged", unfollowed := true, recurses := true, apart := false, narrowed := true }
def GrowChangedUptoSaid : Prop := growChangedUptoRow.holds Try.pinned (OpenSpec.upto growChangedSpec)

/-- 'frankinglaw30.GrowForged', WHERE WHAT IT READS IS OF BULK AT MOST 1048576: true; the input reads as it did. -/
def growForgedUptoRow : OpenClaim := { program := "ytnlaiaklafjamaa", sum := "bfbb08481e0bdbf29aadf5c75fa71e984cc544f1fa9f363a87b579f1a1fe8865", func := "franking/frankinglaw30.GrowForged", spec := "growForged", unfollowed := true, recurses := true, apart := false, narrowed := true }
def GrowForgedUptoSaid : Prop := growForgedUptoRow.holds Try.pinned (OpenSpec.upto growForgedSpec)

/-- 'frankinglaw30.GrowApart', WHERE WHAT IT READS IS OF BULK AT MOST 1048576: true; the input reads as it did. -/
def growApartUptoRow : OpenClaim := { program := "ytnlaiaklafjamaa", sum := "bfbb08481e0bdbf29aadf5c75fa71e984cc544f1fa9f363a87b579f1a1fe8865", func := "franking/frankinglaw30.GrowApart", spec := "growApart", unfollowed := true, recurses := true, apart := false, narrowed := true }
def GrowApartUptoSaid : Prop := growApartUptoRow.holds Try.pinned (OpenSpec.upto growApartSpec)

end Rows
end Go.Proofs.Ytnlaiaklafjamaa
