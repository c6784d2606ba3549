/-
  No cell of these rows narrows 'for every input' (looked for: loops, veiled, ifaces, maps, wideKeys, modest, calm, conditions, laid).
  DERIVED. THE GIVEN ROWS OF THIS SEAT. 6 by the template 'for every input the law returns true; each argument reads behind the call as it read before'; 0 by the template 'total and deterministic' (their statements: YtlnkmaejiceloaaTotals.lean).
  GIVEN WITH THE SEED: the statements are not yours to turn. If you find one false, say at which input.
  Laid BY PROGRAM, IN A SANDBOX (cutbox-rows.mjs): the forced cells as the released guide's own fill.sh prints them over the translation 3e41a9fd23a2640d… (all of the seat's roots in one cut). By AI agents, Wed Nov 11 2026. No macro, syntax, notation, axiom, sorry.
-/
import Derived.Test.YtlnkmaejiceloaaChecked
import GoSem.Claim
import GoSem.ClaimJoined
import GoSem.ClaimMapViews
import Derived.JoinedTies
import Derived.KernelRfl
namespace Go.Proofs.Ytlnkmaejiceloaa
/- THE CELL 'sum', in the pinned program and in every row, IS THE sha256 OF THE DUMP (.gsa) THAT YtlnkmaejiceloaaProg.lean LOADS. Nothing in Lean hashes anything: it is a label: what it is worth is what the hold of that sum in a sandbox is worth. -/
noncomputable def Try.pinned : Pinned := { name := "ytlnkmaejiceloaa", sum := "3e41a9fd23a2640da9d4da8bdfd07ad4ef0b2bf3466ce5f8bc9ed8ec3066f662", checked := Try.checked }
namespace Rows
def none {H : Type} : Left H := { results := [], args := [] }

/-- 'frankinglaw32.BreakersSpec': WHATEVER THE INPUT: true; the input reads as it did. -/
def breakersSpecSpec : ChangeSpec := { name := "breakersSpec", fn := fun _ => fun
  | [d1, d2, d3, d4, d5] => { results := [.lit (.bool true)], args := [d1, d2, d3, d4, d5] }
  | _ => none }
def breakersSpecRow : OpenClaim := { program := "ytlnkmaejiceloaa", sum := "3e41a9fd23a2640da9d4da8bdfd07ad4ef0b2bf3466ce5f8bc9ed8ec3066f662", func := "franking/frankinglaw32.BreakersSpec", spec := "breakersSpec", unfollowed := true, recurses := true, apart := false }
def BreakersSpecSaid : Prop := breakersSpecRow.holds Try.pinned (OpenSpec.ofChange breakersSpecSpec)

/-- ITS FALSE NEIGHBOUR: 'it returns false'. Refute it at one input. -/
def breakersSpecWrong : ChangeSpec := { name := "breakersSpec", fn := fun _ => fun
  | [d1, d2, d3, d4, d5] => { results := [.lit (.bool false)], args := [d1, d2, d3, d4, d5] }
  | _ => none }
def BreakersSpecWrongFalsely : Prop := breakersSpecRow.holds Try.pinned (OpenSpec.ofChange breakersSpecWrong)

/-- 'frankinglaw32.BreakersLeastSpec': WHATEVER THE INPUT: true; the input reads as it did. -/
def breakersLeastSpecSpec : ChangeSpec := { name := "breakersLeastSpec", fn := fun _ => fun
  | [d1, d2, d3, d4, d5] => { results := [.lit (.bool true)], args := [d1, d2, d3, d4, d5] }
  | _ => none }
def breakersLeastSpecRow : OpenClaim := { program := "ytlnkmaejiceloaa", sum := "3e41a9fd23a2640da9d4da8bdfd07ad4ef0b2bf3466ce5f8bc9ed8ec3066f662", func := "franking/frankinglaw32.BreakersLeastSpec", spec := "breakersLeastSpec", unfollowed := true, recurses := true, apart := false }
def BreakersLeastSpecSaid : Prop := breakersLeastSpecRow.holds Try.pinned (OpenSpec.ofChange breakersLeastSpecSpec)

/-- ITS FALSE NEIGHBOUR: 'it returns false'. Refute it at one input. -/
def breakersLeastSpecWrong : ChangeSpec := { name := "breakersLeastSpec", fn := fun _ => fun
  | [d1, d2, d3, d4, d5] => { results := [.lit (.bool false)], args := [d1, d2, d3, d4, d5] }
  | _ => none }
def BreakersLeastSpecWrongFalsely : Prop := breakersLeastSpecRow.holds Try.pinned (OpenSpec.ofChange breakersLeastSpecWrong)

/-- 'frankinglaw32.BreakersMonotone': WHATEVER THE INPUT: true; the input reads as it did. -/
def breakersMonotoneSpec : ChangeSpec := { name := "breakersMonotone", fn := fun _ => fun
  | [d1, d2, d3, d4, d5, d6] => { results := [.lit (.bool true)], args := [d1, d2, d3, d4, d5, d6] }
  | _ => none }
def breakersMonotoneRow : OpenClaim := { program := "ytlnkmaejiceloaa", sum := "3e41a9fd23a2640da9d4da8bdfd07ad4ef0b2bf3466ce5f8bc9ed8ec3066f662", func := "franking/frankinglaw32.BreakersMonotone", spec := "breakersMonotone", unfollowed := true, recurses := true, apart := false }
def BreakersMonotoneSaid : Prop := breakersMonotoneRow.holds Try.pinned (OpenSpec.ofChange breakersMonotoneSpec)

/-- ITS FALSE NEIGHBOUR: 'it returns false'. Refute it at one input. -/
def breakersMonotoneWrong : ChangeSpec := { name := "breakersMonotone", fn := fun _ => fun
  | [d1, d2, d3, d4, d5, d6] => { results := [.lit (.bool false)], args := [d1, d2, d3, d4, d5, d6] }
  | _ => none }
def BreakersMonotoneWrongFalsely : Prop := breakersMonotoneRow.holds Try.pinned (OpenSpec.ofChange breakersMonotoneWrong)

/-- 'frankinglaw32.BreakersExact': WHATEVER THE INPUT: true; the input reads as it did. -/
def breakersExactSpec : ChangeSpec := { name := "breakersExact", fn := fun _ => fun
  | [d1, d2, d3, d4, d5, d6] => { results := [.lit (.bool true)], args := [d1, d2, d3, d4, d5, d6] }
  | _ => none }
def breakersExactRow : OpenClaim := { program := "ytlnkmaejiceloaa", sum := "3e41a9fd23a2640da9d4da8bdfd07ad4ef0b2bf3466ce5f8bc9ed8ec3066f662", func := "franking/frankinglaw32.BreakersExact", spec := "breakersExact", unfollowed := true, recurses := true, apart := false }
def BreakersExactSaid : Prop := breakersExactRow.holds Try.pinned (OpenSpec.ofChange breakersExactSpec)

/-- ITS FALSE NEIGHBOUR: 'it returns false'. Refute it at one input. -/
def breakersExactWrong : ChangeSpec := { name := "breakersExact", fn := fun _ => fun
  | [d1, d2, d3, d4, d5, d6] => { results := [.lit (.bool false)], args := [d1, d2, d3, d4, d5, d6] }
  | _ => none }
def BreakersExactWrongFalsely : Prop := breakersExactRow.holds Try.pinned (OpenSpec.ofChange breakersExactWrong)

/-- 'frankinglaw32.BreakersMinimal': WHATEVER THE INPUT: true; the input reads as it did. -/
def breakersMinimalSpec : ChangeSpec := { name := "breakersMinimal", fn := fun _ => fun
  | [d1, d2, d3, d4, d5] => { results := [.lit (.bool true)], args := [d1, d2, d3, d4, d5] }
  | _ => none }
def breakersMinimalRow : OpenClaim := { program := "ytlnkmaejiceloaa", sum := "3e41a9fd23a2640da9d4da8bdfd07ad4ef0b2bf3466ce5f8bc9ed8ec3066f662", func := "franking/frankinglaw32.BreakersMinimal", spec := "breakersMinimal", unfollowed := true, recurses := true, apart := false }
def BreakersMinimalSaid : Prop := breakersMinimalRow.holds Try.pinned (OpenSpec.ofChange breakersMinimalSpec)

/-- ITS FALSE NEIGHBOUR: 'it returns false'. Refute it at one input. -/
def breakersMinimalWrong : ChangeSpec := { name := "breakersMinimal", fn := fun _ => fun
  | [d1, d2, d3, d4, d5] => { results := [.lit (.bool false)], args := [d1, d2, d3, d4, d5] }
  | _ => none }
def BreakersMinimalWrongFalsely : Prop := breakersMinimalRow.holds Try.pinned (OpenSpec.ofChange breakersMinimalWrong)

/-- 'frankinglaw32.BreakersHonest': WHATEVER THE INPUT: true; the input reads as it did. -/
def breakersHonestSpec : ChangeSpec := { name := "breakersHonest", fn := fun _ => fun
  | [d1, d2, d3, d4, d5] => { results := [.lit (.bool true)], args := [d1, d2, d3, d4, d5] }
  | _ => none }
def breakersHonestRow : OpenClaim := { program := "ytlnkmaejiceloaa", sum := "3e41a9fd23a2640da9d4da8bdfd07ad4ef0b2bf3466ce5f8bc9ed8ec3066f662", func := "franking/frankinglaw32.BreakersHonest", spec := "breakersHonest", unfollowed := true, recurses := true, apart := false }
def BreakersHonestSaid : Prop := breakersHonestRow.holds Try.pinned (OpenSpec.ofChange breakersHonestSpec)

/-- ITS FALSE NEIGHBOUR: 'it returns false'. Refute it at one input. -/
def breakersHonestWrong : ChangeSpec := { name := "breakersHonest", fn := fun _ => fun
  | [d1, d2, d3, d4, d5] => { results := [.lit (.bool false)], args := [d1, d2, d3, d4, d5] }
  | _ => none }
def BreakersHonestWrongFalsely : Prop := breakersHonestRow.holds Try.pinned (OpenSpec.ofChange breakersHonestWrong)

/- THE SECOND FORM. 'bulk': how many values and letters a reading holds, each counted each time it is reached (what is shared counts as often as it is met; a slice's spare places count too). A statement '..UptoSaid' is the law's where the arguments, and the package variables that the reading takes, are together of bulk at most 1048576: NARROWER than '..Said'. Prove '..Said' where nothing that the law and all that it calls make is longer than what came in: it says more and counts as full. Else prove '..UptoSaid'. A law counts once. -/
mutual
def uptoBulk {H : Type} : DataW H → Nat
  | .lit (.string bytes) => bytes.length + 1
  | .lit _ => 1
  | .nil => 1
  | .ptr d => uptoBulk d + 1
  | .slice elems spare => uptoBulkAll elems + uptoBulkAll spare + 1
  | .agg parts => uptoBulkAll parts + 1
  | .iface _ d => uptoBulk d + 1
  | .map entries => uptoBulkEntries entries + 1
  | .held _ => 1
def uptoBulkAll {H : Type} : List (DataW H) → Nat
  | [] => 0
  | d :: r => uptoBulk d + uptoBulkAll r
def uptoBulkEntries {H : Type} : List (Lit × DataW H) → Nat
  | [] => 0
  | x :: r => uptoBulkEntry x + uptoBulkEntries r
def uptoBulkEntry {H : Type} : Lit × DataW H → Nat
  | (.string bytes, d) => bytes.length + uptoBulk d + 1
  | (_, d) => uptoBulk d + 1
 end
def uptoSmall : (H : Type) → List (DataW H) → Bool := fun _ ds => decide (uptoBulkAll ds ≤ 1048576)
def OpenSpec.upto (s : _root_.Go.ChangeSpec) : _root_.Go.OpenSpec := { _root_.Go.OpenSpec.ofChange s with cond := some uptoSmall }

/-- 'frankinglaw32.BreakersSpec', WHERE WHAT IT READS IS OF BULK AT MOST 1048576: true; the input reads as it did. -/
def breakersSpecUptoRow : OpenClaim := { program := "ytlnkmaejiceloaa", sum := "3e41a9fd23a2640da9d4da8bdfd07ad4ef0b2bf3466ce5f8bc9ed8ec3066f662", func := "franking/frankinglaw32.BreakersSpec", spec := "breakersSpec", unfollowed := true, recurses := true, apart := false, narrowed := true }
def BreakersSpecUptoSaid : Prop := breakersSpecUptoRow.holds Try.pinned (OpenSpec.upto breakersSpecSpec)

/-- 'frankinglaw32.BreakersLeastSpec', WHERE WHAT IT READS IS OF BULK AT MOST 1048576: true; the input reads as it did. -/
def breakersLeastSpecUptoRow : OpenClaim := { program := "ytlnkmaejiceloaa", sum := "3e41a9fd23a2640da9d4da8bdfd07ad4ef0b2bf3466ce5f8bc9ed8ec3066f662", func := "franking/frankinglaw32.BreakersLeastSpec", spec := "breakersLeastSpec", unfollowed := true, recurses := true, apart := false, narrowed := true }
def BreakersLeastSpecUptoSaid : Prop := breakersLeastSpecUptoRow.holds Try.pinned (OpenSpec.upto breakersLeastSpecSpec)

/-- 'frankinglaw32.BreakersMonotone', WHERE WHAT IT READS IS OF BULK AT MOST 1048576: true; the input reads as it did. -/
def breakersMonotoneUptoRow : OpenClaim := { program := "ytlnkmaejiceloaa", sum := "3e41a9fd23a2640da9d4da8bdfd07ad4ef0b2bf3466ce5f8bc9ed8ec3066f662", func := "franking/frankinglaw32.BreakersMonotone", spec := "breakersMonotone", unfollowed := true, recurses := true, apart := false, narrowed := true }
def BreakersMonotoneUptoSaid : Prop := breakersMonotoneUptoRow.holds Try.pinned (OpenSpec.upto breakersMonotoneSpec)

/-- 'frankinglaw32.BreakersExact', WHERE WHAT IT READS IS OF BULK AT MOST 1048576: true; the input reads as it did. -/
def breakersExactUptoRow : OpenClaim := { program := "ytlnkmaejiceloaa", sum := "3e41a9fd23a2640da9d4da8bdfd07ad4ef0b2bf3466ce5f8bc9ed8ec3066f662", func := "franking/frankinglaw32.BreakersExact", spec := "breakersExact", unfollowed := true, recurses := true, apart := false, narrowed := true }
def BreakersExactUptoSaid : Prop := breakersExactUptoRow.holds Try.pinned (OpenSpec.upto breakersExactSpec)

/-- 'frankinglaw32.BreakersMinimal', WHERE WHAT IT READS IS OF BULK AT MOST 1048576: true; the input reads as it did. -/
def breakersMinimalUptoRow : OpenClaim := { program := "ytlnkmaejiceloaa", sum := "3e41a9fd23a2640da9d4da8bdfd07ad4ef0b2bf3466ce5f8bc9ed8ec3066f662", func := "franking/frankinglaw32.BreakersMinimal", spec := "breakersMinimal", unfollowed := true, recurses := true, apart := false, narrowed := true }
def BreakersMinimalUptoSaid : Prop := breakersMinimalUptoRow.holds Try.pinned (OpenSpec.upto breakersMinimalSpec)

/-- 'frankinglaw32.BreakersHonest', WHERE WHAT IT READS IS OF BULK AT MOST 1048576: true; the input reads as it did. -/
def breakersHonestUptoRow : OpenClaim := { program := "ytlnkmaejiceloaa", sum := "3e41a9fd23a2640da9d4da8bdfd07ad4ef0b2bf3466ce5f8bc9ed8ec3066f662", func := "franking/frankinglaw32.BreakersHonest", spec := "breakersHonest", unfollowed := true, recurses := true, apart := false, narrowed := true }
def BreakersHonestUptoSaid : Prop := breakersHonestUptoRow.holds Try.pinned (OpenSpec.upto breakersHonestSpec)

end Rows
end Go.Proofs.Ytlnkmaejiceloaa
