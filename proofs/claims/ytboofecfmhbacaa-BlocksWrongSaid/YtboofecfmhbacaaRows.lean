/-
  No cell of these rows narrows 'for every input' (looked for: loops, veiled, ifaces, maps, wideKeys, modest, calm, conditions, laid).
  DERIVED. THE GIVEN ROWS OF THIS SEAT. 10 by the template 'for every input the law returns true; each argument reads behind the call as it read before'; 0 by the template 'total and deterministic' (their statements: YtboofecfmhbacaaTotals.lean).
  GIVEN WITH THE SEED: the statements are not yours to turn. If you find one false, say at which input.
  Laid BY PROGRAM, IN A SANDBOX (cutbox-rows.mjs): the forced cells as the released guide's own fill.sh prints them over the translation 4c111da39738ec48… (all of the seat's roots in one cut). By AI agents, Wed Nov 11 2026. No macro, syntax, notation, axiom, sorry.
-/
import Derived.Test.YtboofecfmhbacaaChecked
import GoSem.Claim
import GoSem.ClaimJoined
import GoSem.ClaimMapViews
import Derived.JoinedTies
import Derived.KernelRfl
namespace Go.Proofs.Ytboofecfmhbacaa
/- THE CELL 'sum', in the pinned program and in every row, IS THE sha256 OF THE DUMP (.gsa) THAT YtboofecfmhbacaaProg.lean LOADS. Nothing in Lean hashes anything: it is a label: what it is worth is what the hold of that sum in a sandbox is worth. -/
noncomputable def Try.pinned : Pinned := { name := "ytboofecfmhbacaa", sum := "4c111da39738ec489a4333ca0fbb64b895bbf934815e4601ed4cd5f3310166bc", checked := Try.checked }
namespace Rows
def none {H : Type} : Left H := { results := [], args := [] }

/-- 'reparteelaw06.BlocksKeys': WHATEVER THE INPUT: true; the input reads as it did. -/
def blocksKeysSpec : ChangeSpec := { name := "blocksKeys", fn := fun _ => fun
  | [d1, d2] => { results := [.lit (.bool true)], args := [d1, d2] }
  | _ => none }
def blocksKeysRow : OpenClaim := { program := "ytboofecfmhbacaa", sum := "4c111da39738ec489a4333ca0fbb64b895bbf934815e4601ed4cd5f3310166bc", func := "repartee/reparteelaw06.BlocksKeys", spec := "blocksKeys", unfollowed := true, recurses := true, plainKeys := false, apart := false }
def BlocksKeysSaid : Prop := blocksKeysRow.holds Try.pinned (OpenSpec.ofChange blocksKeysSpec)

/-- ITS FALSE NEIGHBOUR: 'it returns false'. Refute it at one input. -/
def blocksKeysWrong : ChangeSpec := { name := "blocksKeys", fn := fun _ => fun
  | [d1, d2] => { results := [.lit (.bool false)], args := [d1, d2] }
  | _ => none }
def BlocksKeysWrongFalsely : Prop := blocksKeysRow.holds Try.pinned (OpenSpec.ofChange blocksKeysWrong)

/-- 'reparteelaw06.BlocksSteps': WHATEVER THE INPUT: true; the input reads as it did. -/
def blocksStepsSpec : ChangeSpec := { name := "blocksSteps", fn := fun _ => fun
  | [d1, d2] => { results := [.lit (.bool true)], args := [d1, d2] }
  | _ => none }
def blocksStepsRow : OpenClaim := { program := "ytboofecfmhbacaa", sum := "4c111da39738ec489a4333ca0fbb64b895bbf934815e4601ed4cd5f3310166bc", func := "repartee/reparteelaw06.BlocksSteps", spec := "blocksSteps", unfollowed := true, recurses := true, plainKeys := false, apart := false }
def BlocksStepsSaid : Prop := blocksStepsRow.holds Try.pinned (OpenSpec.ofChange blocksStepsSpec)

/-- ITS FALSE NEIGHBOUR: 'it returns false'. Refute it at one input. -/
def blocksStepsWrong : ChangeSpec := { name := "blocksSteps", fn := fun _ => fun
  | [d1, d2] => { results := [.lit (.bool false)], args := [d1, d2] }
  | _ => none }
def BlocksStepsWrongFalsely : Prop := blocksStepsRow.holds Try.pinned (OpenSpec.ofChange blocksStepsWrong)

/-- 'reparteelaw06.BlocksQuotient': WHATEVER THE INPUT: true; the input reads as it did. -/
def blocksQuotientSpec : ChangeSpec := { name := "blocksQuotient", fn := fun _ => fun
  | [d1, d2] => { results := [.lit (.bool true)], args := [d1, d2] }
  | _ => none }
def blocksQuotientRow : OpenClaim := { program := "ytboofecfmhbacaa", sum := "4c111da39738ec489a4333ca0fbb64b895bbf934815e4601ed4cd5f3310166bc", func := "repartee/reparteelaw06.BlocksQuotient", spec := "blocksQuotient", unfollowed := true, recurses := true, plainKeys := false, apart := false }
def BlocksQuotientSaid : Prop := blocksQuotientRow.holds Try.pinned (OpenSpec.ofChange blocksQuotientSpec)

/-- ITS FALSE NEIGHBOUR: 'it returns false'. Refute it at one input. -/
def blocksQuotientWrong : ChangeSpec := { name := "blocksQuotient", fn := fun _ => fun
  | [d1, d2] => { results := [.lit (.bool false)], args := [d1, d2] }
  | _ => none }
def BlocksQuotientWrongFalsely : Prop := blocksQuotientRow.holds Try.pinned (OpenSpec.ofChange blocksQuotientWrong)

/-- 'reparteelaw06.BlocksLattice': WHATEVER THE INPUT: true; the input reads as it did. -/
def blocksLatticeSpec : ChangeSpec := { name := "blocksLattice", fn := fun _ => fun
  | [d1, d2, d3] => { results := [.lit (.bool true)], args := [d1, d2, d3] }
  | _ => none }
def blocksLatticeRow : OpenClaim := { program := "ytboofecfmhbacaa", sum := "4c111da39738ec489a4333ca0fbb64b895bbf934815e4601ed4cd5f3310166bc", func := "repartee/reparteelaw06.BlocksLattice", spec := "blocksLattice", unfollowed := true, recurses := true, plainKeys := false, apart := false }
def BlocksLatticeSaid : Prop := blocksLatticeRow.holds Try.pinned (OpenSpec.ofChange blocksLatticeSpec)

/-- ITS FALSE NEIGHBOUR: 'it returns false'. Refute it at one input. -/
def blocksLatticeWrong : ChangeSpec := { name := "blocksLattice", fn := fun _ => fun
  | [d1, d2, d3] => { results := [.lit (.bool false)], args := [d1, d2, d3] }
  | _ => none }
def BlocksLatticeWrongFalsely : Prop := blocksLatticeRow.holds Try.pinned (OpenSpec.ofChange blocksLatticeWrong)

/-- 'reparteelaw06.BlocksCoarsest': WHATEVER THE INPUT: true; the input reads as it did. -/
def blocksCoarsestSpec : ChangeSpec := { name := "blocksCoarsest", fn := fun _ => fun
  | [d1, d2, d3] => { results := [.lit (.bool true)], args := [d1, d2, d3] }
  | _ => none }
def blocksCoarsestRow : OpenClaim := { program := "ytboofecfmhbacaa", sum := "4c111da39738ec489a4333ca0fbb64b895bbf934815e4601ed4cd5f3310166bc", func := "repartee/reparteelaw06.BlocksCoarsest", spec := "blocksCoarsest", unfollowed := true, recurses := true, plainKeys := false, apart := false }
def BlocksCoarsestSaid : Prop := blocksCoarsestRow.holds Try.pinned (OpenSpec.ofChange blocksCoarsestSpec)

/-- ITS FALSE NEIGHBOUR: 'it returns false'. Refute it at one input. -/
def blocksCoarsestWrong : ChangeSpec := { name := "blocksCoarsest", fn := fun _ => fun
  | [d1, d2, d3] => { results := [.lit (.bool false)], args := [d1, d2, d3] }
  | _ => none }
def BlocksCoarsestWrongFalsely : Prop := blocksCoarsestRow.holds Try.pinned (OpenSpec.ofChange blocksCoarsestWrong)

/-- 'reparteelaw06.BlocksRefines': WHATEVER THE INPUT: true; the input reads as it did. -/
def blocksRefinesSpec : ChangeSpec := { name := "blocksRefines", fn := fun _ => fun
  | [d1, d2, d3] => { results := [.lit (.bool true)], args := [d1, d2, d3] }
  | _ => none }
def blocksRefinesRow : OpenClaim := { program := "ytboofecfmhbacaa", sum := "4c111da39738ec489a4333ca0fbb64b895bbf934815e4601ed4cd5f3310166bc", func := "repartee/reparteelaw06.BlocksRefines", spec := "blocksRefines", unfollowed := true, recurses := true, plainKeys := false, apart := false }
def BlocksRefinesSaid : Prop := blocksRefinesRow.holds Try.pinned (OpenSpec.ofChange blocksRefinesSpec)

/-- ITS FALSE NEIGHBOUR: 'it returns false'. Refute it at one input. -/
def blocksRefinesWrong : ChangeSpec := { name := "blocksRefines", fn := fun _ => fun
  | [d1, d2, d3] => { results := [.lit (.bool false)], args := [d1, d2, d3] }
  | _ => none }
def BlocksRefinesWrongFalsely : Prop := blocksRefinesRow.holds Try.pinned (OpenSpec.ofChange blocksRefinesWrong)

/-- 'reparteelaw06.BlocksMembers': WHATEVER THE INPUT: true; the input reads as it did. -/
def blocksMembersSpec : ChangeSpec := { name := "blocksMembers", fn := fun _ => fun
  | [d1, d2] => { results := [.lit (.bool true)], args := [d1, d2] }
  | _ => none }
def blocksMembersRow : OpenClaim := { program := "ytboofecfmhbacaa", sum := "4c111da39738ec489a4333ca0fbb64b895bbf934815e4601ed4cd5f3310166bc", func := "repartee/reparteelaw06.BlocksMembers", spec := "blocksMembers", unfollowed := true, recurses := true, plainKeys := false, apart := false }
def BlocksMembersSaid : Prop := blocksMembersRow.holds Try.pinned (OpenSpec.ofChange blocksMembersSpec)

/-- ITS FALSE NEIGHBOUR: 'it returns false'. Refute it at one input. -/
def blocksMembersWrong : ChangeSpec := { name := "blocksMembers", fn := fun _ => fun
  | [d1, d2] => { results := [.lit (.bool false)], args := [d1, d2] }
  | _ => none }
def BlocksMembersWrongFalsely : Prop := blocksMembersRow.holds Try.pinned (OpenSpec.ofChange blocksMembersWrong)

/-- 'reparteelaw06.BlocksPairs': WHATEVER THE INPUT: true; the input reads as it did. -/
def blocksPairsSpec : ChangeSpec := { name := "blocksPairs", fn := fun _ => fun
  | [d1, d2] => { results := [.lit (.bool true)], args := [d1, d2] }
  | _ => none }
def blocksPairsRow : OpenClaim := { program := "ytboofecfmhbacaa", sum := "4c111da39738ec489a4333ca0fbb64b895bbf934815e4601ed4cd5f3310166bc", func := "repartee/reparteelaw06.BlocksPairs", spec := "blocksPairs", unfollowed := true, recurses := true, plainKeys := false, apart := false }
def BlocksPairsSaid : Prop := blocksPairsRow.holds Try.pinned (OpenSpec.ofChange blocksPairsSpec)

/-- ITS FALSE NEIGHBOUR: 'it returns false'. Refute it at one input. -/
def blocksPairsWrong : ChangeSpec := { name := "blocksPairs", fn := fun _ => fun
  | [d1, d2] => { results := [.lit (.bool false)], args := [d1, d2] }
  | _ => none }
def BlocksPairsWrongFalsely : Prop := blocksPairsRow.holds Try.pinned (OpenSpec.ofChange blocksPairsWrong)

/-- 'reparteelaw06.BlocksSmall': WHATEVER THE INPUT: true; the input reads as it did. -/
def blocksSmallSpec : ChangeSpec := { name := "blocksSmall", fn := fun _ => fun
  | [] => { results := [.lit (.bool true)], args := [] }
  | _ => none }
def blocksSmallRow : OpenClaim := { program := "ytboofecfmhbacaa", sum := "4c111da39738ec489a4333ca0fbb64b895bbf934815e4601ed4cd5f3310166bc", func := "repartee/reparteelaw06.BlocksSmall", spec := "blocksSmall", unfollowed := true, recurses := true, plainKeys := false, apart := false }
def BlocksSmallSaid : Prop := blocksSmallRow.holds Try.pinned (OpenSpec.ofChange blocksSmallSpec)

/-- ITS FALSE NEIGHBOUR: 'it returns false'. Refute it at one input. -/
def blocksSmallWrong : ChangeSpec := { name := "blocksSmall", fn := fun _ => fun
  | [] => { results := [.lit (.bool false)], args := [] }
  | _ => none }
def BlocksSmallWrongFalsely : Prop := blocksSmallRow.holds Try.pinned (OpenSpec.ofChange blocksSmallWrong)

/-- 'reparteelaw06.BlocksWrong': WHATEVER THE INPUT: true; the input reads as it did. -/
def blocksWrongSpec : ChangeSpec := { name := "blocksWrong", fn := fun _ => fun
  | [d1, d2, d3, d4] => { results := [.lit (.bool true)], args := [d1, d2, d3, d4] }
  | _ => none }
def blocksWrongRow : OpenClaim := { program := "ytboofecfmhbacaa", sum := "4c111da39738ec489a4333ca0fbb64b895bbf934815e4601ed4cd5f3310166bc", func := "repartee/reparteelaw06.BlocksWrong", spec := "blocksWrong", unfollowed := true, recurses := true, plainKeys := false, apart := false }
def BlocksWrongSaid : Prop := blocksWrongRow.holds Try.pinned (OpenSpec.ofChange blocksWrongSpec)

/-- ITS FALSE NEIGHBOUR: 'it returns false'. Refute it at one input. -/
def blocksWrongWrong : ChangeSpec := { name := "blocksWrong", fn := fun _ => fun
  | [d1, d2, d3, d4] => { results := [.lit (.bool false)], args := [d1, d2, d3, d4] }
  | _ => none }
def BlocksWrongWrongFalsely : Prop := blocksWrongRow.holds Try.pinned (OpenSpec.ofChange blocksWrongWrong)

/- THE SECOND FORM. 'bulk': how many values and letters a reading holds, each counted each time it is reached (what is shared counts as often as it is met; a slice's spare places count too). A statement '..UptoSaid' is the law's where the arguments, and the package variables that the reading takes, are together of bulk at most 1048576: NARROWER than '..Said'. Prove '..Said' where nothing that the law and all that it calls make is longer than what came in: it says more and counts as full. Else prove '..UptoSaid'. A law counts once. -/
mutual
def uptoBulk {H : Type} : DataW H → Nat
  | .lit (.string bytes) => bytes.length + 1
  | .lit _ => 1
  | .nil => 1
  | .ptr d => uptoBulk d + 1
  | .slice elems spare => uptoBulkAll elems + uptoBulkAll spare + 1
  | .agg parts => uptoBulkAll parts + 1
  | .iface _ d => uptoBulk d + 1
  | .map entries => uptoBulkEntries entries + 1
  | .held _ => 1
def uptoBulkAll {H : Type} : List (DataW H) → Nat
  | [] => 0
  | d :: r => uptoBulk d + uptoBulkAll r
def uptoBulkEntries {H : Type} : List (Lit × DataW H) → Nat
  | [] => 0
  | x :: r => uptoBulkEntry x + uptoBulkEntries r
def uptoBulkEntry {H : Type} : Lit × DataW H → Nat
  | (.string bytes, d) => bytes.length + uptoBulk d + 1
  | (_, d) => uptoBulk d + 1
 end
def uptoSmall : (H : Type) → List (DataW H) → Bool := fun _ ds => decide (uptoBulkAll ds ≤ 1048576)
def OpenSpec.upto (s : _root_.Go.ChangeSpec) : _root_.Go.OpenSpec := { _root_.Go.OpenSpec.ofChange s with cond := some uptoSmall }

/-- 'reparteelaw06.BlocksKeys', WHERE WHAT IT READS IS OF BULK AT MOST 1048576: true; the input reads as it did. -/
def blocksKeysUptoRow : OpenClaim := { program := "ytboofecfmhbacaa", sum := "4c111da39738ec489a4333ca0fbb64b895bbf934815e4601ed4cd5f3310166bc", func := "repartee/reparteelaw06.BlocksKeys", spec := "blocksKeys", unfollowed := true, recurses := true, plainKeys := false, apart := false, narrowed := true }
def BlocksKeysUptoSaid : Prop := blocksKeysUptoRow.holds Try.pinned (OpenSpec.upto blocksKeysSpec)

/-- 'reparteelaw06.BlocksSteps', WHERE WHAT IT READS IS OF BULK AT MOST 1048576: true; the input reads as it did. -/
def blocksStepsUptoRow : OpenClaim := { program := "ytboofecfmhbacaa", sum := "4c111da39738ec489a4333ca0fbb64b895bbf934815e4601ed4cd5f3310166bc", func := "repartee/reparteelaw06.BlocksSteps", spec := "blocksSteps", unfollowed := true, recurses := true, plainKeys := false, apart := false, narrowed := true }
def BlocksStepsUptoSaid : Prop := blocksStepsUptoRow.holds Try.pinned (OpenSpec.upto blocksStepsSpec)

/-- 'reparteelaw06.BlocksQuotient', WHERE WHAT IT READS IS OF BULK AT MOST 1048576: true; the input reads as it did. -/
def blocksQuotientUptoRow : OpenClaim := { program := "ytboofecfmhbacaa", sum := "4c111da39738ec489a4333ca0fbb64b895bbf934815e4601ed4cd5f3310166bc", func := "repartee/reparteelaw06.BlocksQuotient", spec := "blocksQuotient", unfollowed := true, recurses := true, plainKeys := false, apart := false, narrowed := true }
def BlocksQuotientUptoSaid : Prop := blocksQuotientUptoRow.holds Try.pinned (OpenSpec.upto blocksQuotientSpec)

/-- 'reparteelaw06.BlocksLattice', WHERE WHAT IT READS IS OF BULK AT MOST 1048576: true; the input reads as it did. -/
def blocksLatticeUptoRow : OpenClaim := { program := "ytboofecfmhbacaa", sum := "4c111da39738ec489a4333ca0fbb64b895bbf934815e4601ed4cd5f3310166bc", func := "repartee/reparteelaw06.BlocksLattice", spec := "blocksLattice", unfollowed := true, recurses := true, plainKeys := false, apart := false, narrowed := true }
def BlocksLatticeUptoSaid : Prop := blocksLatticeUptoRow.holds Try.pinned (OpenSpec.upto blocksLatticeSpec)

/-- 'reparteelaw06.BlocksCoarsest', WHERE WHAT IT READS IS OF BULK AT MOST 1048576: true; the input reads as it did. -/
def blocksCoarsestUptoRow : OpenClaim := { program := "ytboofecfmhbacaa", sum := "4c111da39738ec489a4333ca0fbb64b895bbf934815e4601ed4cd5f3310166bc", func := "repartee/reparteelaw06.BlocksCoarsest", spec := "blocksCoarsest", unfollowed := true, recurses := true, plainKeys := false, apart := false, narrowed := true }
def BlocksCoarsestUptoSaid : Prop := blocksCoarsestUptoRow.holds Try.pinned (OpenSpec.upto blocksCoarsestSpec)

/-- 'reparteelaw06.BlocksRefines', WHERE WHAT IT READS IS OF BULK AT MOST 1048576: true; the input reads as it did. -/
def blocksRefinesUptoRow : OpenClaim := { program := "ytboofecfmhbacaa", sum := "4c111da39738ec489a4333ca0fbb64b895bbf934815e4601ed4cd5f3310166bc", func := "repartee/reparteelaw06.BlocksRefines", spec := "blocksRefines", unfollowed := true, recurses := true, plainKeys := false, apart := false, narrowed := true }
def BlocksRefinesUptoSaid : Prop := blocksRefinesUptoRow.holds Try.pinned (OpenSpec.upto blocksRefinesSpec)

/-- 'reparteelaw06.BlocksMembers', WHERE WHAT IT READS IS OF BULK AT MOST 1048576: true; the input reads as it did. -/
def blocksMembersUptoRow : OpenClaim := { program := "ytboofecfmhbacaa", sum := "4c111da39738ec489a4333ca0fbb64b895bbf934815e4601ed4cd5f3310166bc", func := "repartee/reparteelaw06.BlocksMembers", spec := "blocksMembers", unfollowed := true, recurses := true, plainKeys := false, apart := false, narrowed := true }
def BlocksMembersUptoSaid : Prop := blocksMembersUptoRow.holds Try.pinned (OpenSpec.upto blocksMembersSpec)

/-- 'reparteelaw06.BlocksPairs', WHERE WHAT IT READS IS OF BULK AT MOST 1048576: true; the input reads as it did. -/
def blocksPairsUptoRow : OpenClaim := { program := "ytboofecfmhbacaa", sum := "4c111da39738ec489a4333ca0fbb64b895bbf934815e4601ed4cd5f3310166bc", func := "repartee/reparteelaw06.BlocksPairs", spec := "blocksPairs", unfollowed := true, recurses := true, plainKeys := false, apart := false, narrowed := true }
def BlocksPairsUptoSaid : Prop := blocksPairsUptoRow.holds Try.pinned (OpenSpec.upto blocksPairsSpec)

/-- 'reparteelaw06.BlocksSmall', WHERE WHAT IT READS IS OF BULK AT MOST 1048576: true; the input reads as it did. -/
def blocksSmallUptoRow : OpenClaim := { program := "ytboofecfmhbacaa", sum := "4c111da39738ec489a4333ca0fbb64b895bbf934815e4601ed4cd5f3310166bc", func := "repartee/reparteelaw06.BlocksSmall", spec := "blocksSmall", unfollowed := true, recurses := true, plainKeys := false, apart := false, narrowed := true }
def BlocksSmallUptoSaid : Prop := blocksSmallUptoRow.holds Try.pinned (OpenSpec.upto blocksSmallSpec)

/-- 'reparteelaw06.BlocksWrong', WHERE WHAT IT READS IS OF BULK AT MOST 1048576: true; the input reads as it did. -/
def blocksWrongUptoRow : OpenClaim := { program := "ytboofecfmhbacaa", sum := "4c111da39738ec489a4333ca0fbb64b895bbf934815e4601ed4cd5f3310166bc", func := "repartee/reparteelaw06.BlocksWrong", spec := "blocksWrong", unfollowed := true, recurses := true, plainKeys := false, apart := false, narrowed := true }
def BlocksWrongUptoSaid : Prop := blocksWrongUptoRow.holds Try.pinned (OpenSpec.upto blocksWrongSpec)

end Rows
end Go.Proofs.Ytboofecfmhbacaa
