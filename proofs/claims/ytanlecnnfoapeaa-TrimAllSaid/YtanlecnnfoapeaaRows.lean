/-
  No cell of these rows narrows 'for every input' (looked for: loops, veiled, ifaces, maps, wideKeys, modest, calm, conditions, laid).
  DERIVED. THE GIVEN ROWS OF THIS SEAT. 6 by the template 'for every input the law returns true; each argument reads behind the call as it read before'; 0 by the template 'total and deterministic' (their statements: YtanlecnnfoapeaaTotals.lean).
  GIVEN WITH THE SEED: the statements are not yours to turn. If you find one false, say at which input.
  Laid BY PROGRAM, IN A SANDBOX (cutbox-rows.mjs): the forced cells as the released guide's own fill.sh prints them over the translation 0895d1db60b75537… (all of the seat's roots in one cut). By AI agents, Wed Nov 11 2026. No macro, syntax, notation, axiom, sorry.
-/
import Derived.Test.YtanlecnnfoapeaaChecked
import GoSem.Claim
import GoSem.ClaimJoined
import GoSem.ClaimMapViews
import Derived.JoinedTies
import Derived.KernelRfl
namespace Go.Proofs.Ytanlecnnfoapeaa
/- THE CELL 'sum', in the pinned program and in every row, IS THE sha256 OF THE DUMP (.gsa) THAT YtanlecnnfoapeaaProg.lean LOADS. Nothing in Lean hashes anything: it is a label: what it is worth is what the hold of that sum in a sandbox is worth. -/
noncomputable def Try.pinned : Pinned := { name := "ytanlecnnfoapeaa", sum := "0895d1db60b7553730f841a4e79ef60c9c16f119ec2dbd685132dcc8d36dc55d", checked := Try.checked }
namespace Rows
def none {H : Type} : Left H := { results := [], args := [] }

/-- 'iceboxlaw23.TrimSees': WHATEVER THE INPUT: true; the input reads as it did. -/
def trimSeesSpec : ChangeSpec := { name := "trimSees", fn := fun _ => fun
  | [d1, d2, d3, d4] => { results := [.lit (.bool true)], args := [d1, d2, d3, d4] }
  | _ => none }
def trimSeesRow : OpenClaim := { program := "ytanlecnnfoapeaa", sum := "0895d1db60b7553730f841a4e79ef60c9c16f119ec2dbd685132dcc8d36dc55d", func := "icebox/iceboxlaw23.TrimSees", spec := "trimSees", unfollowed := true, recurses := true, apart := false }
def TrimSeesSaid : Prop := trimSeesRow.holds Try.pinned (OpenSpec.ofChange trimSeesSpec)

/-- ITS FALSE NEIGHBOUR: 'it returns false'. Refute it at one input. -/
def trimSeesWrong : ChangeSpec := { name := "trimSees", fn := fun _ => fun
  | [d1, d2, d3, d4] => { results := [.lit (.bool false)], args := [d1, d2, d3, d4] }
  | _ => none }
def TrimSeesWrongFalsely : Prop := trimSeesRow.holds Try.pinned (OpenSpec.ofChange trimSeesWrong)

/-- 'iceboxlaw23.TrimBottom': WHATEVER THE INPUT: true; the input reads as it did. -/
def trimBottomSpec : ChangeSpec := { name := "trimBottom", fn := fun _ => fun
  | [d1, d2] => { results := [.lit (.bool true)], args := [d1, d2] }
  | _ => none }
def trimBottomRow : OpenClaim := { program := "ytanlecnnfoapeaa", sum := "0895d1db60b7553730f841a4e79ef60c9c16f119ec2dbd685132dcc8d36dc55d", func := "icebox/iceboxlaw23.TrimBottom", spec := "trimBottom", unfollowed := true, recurses := true, apart := false }
def TrimBottomSaid : Prop := trimBottomRow.holds Try.pinned (OpenSpec.ofChange trimBottomSpec)

/-- ITS FALSE NEIGHBOUR: 'it returns false'. Refute it at one input. -/
def trimBottomWrong : ChangeSpec := { name := "trimBottom", fn := fun _ => fun
  | [d1, d2] => { results := [.lit (.bool false)], args := [d1, d2] }
  | _ => none }
def TrimBottomWrongFalsely : Prop := trimBottomRow.holds Try.pinned (OpenSpec.ofChange trimBottomWrong)

/-- 'iceboxlaw23.TrimTwice': WHATEVER THE INPUT: true; the input reads as it did. -/
def trimTwiceSpec : ChangeSpec := { name := "trimTwice", fn := fun _ => fun
  | [d1, d2, d3, d4, d5] => { results := [.lit (.bool true)], args := [d1, d2, d3, d4, d5] }
  | _ => none }
def trimTwiceRow : OpenClaim := { program := "ytanlecnnfoapeaa", sum := "0895d1db60b7553730f841a4e79ef60c9c16f119ec2dbd685132dcc8d36dc55d", func := "icebox/iceboxlaw23.TrimTwice", spec := "trimTwice", unfollowed := true, recurses := true, apart := false }
def TrimTwiceSaid : Prop := trimTwiceRow.holds Try.pinned (OpenSpec.ofChange trimTwiceSpec)

/-- ITS FALSE NEIGHBOUR: 'it returns false'. Refute it at one input. -/
def trimTwiceWrong : ChangeSpec := { name := "trimTwice", fn := fun _ => fun
  | [d1, d2, d3, d4, d5] => { results := [.lit (.bool false)], args := [d1, d2, d3, d4, d5] }
  | _ => none }
def TrimTwiceWrongFalsely : Prop := trimTwiceRow.holds Try.pinned (OpenSpec.ofChange trimTwiceWrong)

/-- 'iceboxlaw23.TrimAll': WHATEVER THE INPUT: true; the input reads as it did. -/
def trimAllSpec : ChangeSpec := { name := "trimAll", fn := fun _ => fun
  | [d1, d2, d3, d4] => { results := [.lit (.bool true)], args := [d1, d2, d3, d4] }
  | _ => none }
def trimAllRow : OpenClaim := { program := "ytanlecnnfoapeaa", sum := "0895d1db60b7553730f841a4e79ef60c9c16f119ec2dbd685132dcc8d36dc55d", func := "icebox/iceboxlaw23.TrimAll", spec := "trimAll", unfollowed := true, recurses := true, apart := false }
def TrimAllSaid : Prop := trimAllRow.holds Try.pinned (OpenSpec.ofChange trimAllSpec)

/-- ITS FALSE NEIGHBOUR: 'it returns false'. Refute it at one input. -/
def trimAllWrong : ChangeSpec := { name := "trimAll", fn := fun _ => fun
  | [d1, d2, d3, d4] => { results := [.lit (.bool false)], args := [d1, d2, d3, d4] }
  | _ => none }
def TrimAllWrongFalsely : Prop := trimAllRow.holds Try.pinned (OpenSpec.ofChange trimAllWrong)

/-- 'iceboxlaw23.TrimMade': WHATEVER THE INPUT: true; the input reads as it did. -/
def trimMadeSpec : ChangeSpec := { name := "trimMade", fn := fun _ => fun
  | [d1, d2, d3, d4, d5] => { results := [.lit (.bool true)], args := [d1, d2, d3, d4, d5] }
  | _ => none }
def trimMadeRow : OpenClaim := { program := "ytanlecnnfoapeaa", sum := "0895d1db60b7553730f841a4e79ef60c9c16f119ec2dbd685132dcc8d36dc55d", func := "icebox/iceboxlaw23.TrimMade", spec := "trimMade", unfollowed := true, recurses := true, apart := false }
def TrimMadeSaid : Prop := trimMadeRow.holds Try.pinned (OpenSpec.ofChange trimMadeSpec)

/-- ITS FALSE NEIGHBOUR: 'it returns false'. Refute it at one input. -/
def trimMadeWrong : ChangeSpec := { name := "trimMade", fn := fun _ => fun
  | [d1, d2, d3, d4, d5] => { results := [.lit (.bool false)], args := [d1, d2, d3, d4, d5] }
  | _ => none }
def TrimMadeWrongFalsely : Prop := trimMadeRow.holds Try.pinned (OpenSpec.ofChange trimMadeWrong)

/-- 'iceboxlaw23.TrimParts': WHATEVER THE INPUT: true; the input reads as it did. -/
def trimPartsSpec : ChangeSpec := { name := "trimParts", fn := fun _ => fun
  | [d1, d2, d3] => { results := [.lit (.bool true)], args := [d1, d2, d3] }
  | _ => none }
def trimPartsRow : OpenClaim := { program := "ytanlecnnfoapeaa", sum := "0895d1db60b7553730f841a4e79ef60c9c16f119ec2dbd685132dcc8d36dc55d", func := "icebox/iceboxlaw23.TrimParts", spec := "trimParts", unfollowed := true, recurses := true, apart := false }
def TrimPartsSaid : Prop := trimPartsRow.holds Try.pinned (OpenSpec.ofChange trimPartsSpec)

/-- ITS FALSE NEIGHBOUR: 'it returns false'. Refute it at one input. -/
def trimPartsWrong : ChangeSpec := { name := "trimParts", fn := fun _ => fun
  | [d1, d2, d3] => { results := [.lit (.bool false)], args := [d1, d2, d3] }
  | _ => none }
def TrimPartsWrongFalsely : Prop := trimPartsRow.holds Try.pinned (OpenSpec.ofChange trimPartsWrong)

/- THE SECOND FORM. 'bulk': how many values and letters a reading holds, each counted each time it is reached (what is shared counts as often as it is met; a slice's spare places count too). A statement '..UptoSaid' is the law's where the arguments, and the package variables that the reading takes, are together of bulk at most 1048576: NARROWER than '..Said'. Prove '..Said' where nothing that the law and all that it calls make is longer than what came in: it says more and counts as full. Else prove '..UptoSaid'. A law counts once. -/
mutual
def uptoBulk {H : Type} : DataW H → Nat
  | .lit (.string bytes) => bytes.length + 1
  | .lit _ => 1
  | .nil => 1
  | .ptr d => uptoBulk d + 1
  | .slice elems spare => uptoBulkAll elems + uptoBulkAll spare + 1
  | .agg parts => uptoBulkAll parts + 1
  | .iface _ d => uptoBulk d + 1
  | .map entries => uptoBulkEntries entries + 1
  | .held _ => 1
def uptoBulkAll {H : Type} : List (DataW H) → Nat
  | [] => 0
  | d :: r => uptoBulk d + uptoBulkAll r
def uptoBulkEntries {H : Type} : List (Lit × DataW H) → Nat
  | [] => 0
  | x :: r => uptoBulkEntry x + uptoBulkEntries r
def uptoBulkEntry {H : Type} : Lit × DataW H → Nat
  | (.string bytes, d) => bytes.length + uptoBulk d + 1
  | (_, d) => uptoBulk d + 1
 end
def uptoSmall : (H : Type) → List (DataW H) → Bool := fun _ ds => decide (uptoBulkAll ds ≤ 1048576)
def OpenSpec.upto (s : _root_.Go.ChangeSpec) : _root_.Go.OpenSpec := { _root_.Go.OpenSpec.ofChange s with cond := some uptoSmall }

/-- 'iceboxlaw23.TrimSees', WHERE WHAT IT READS IS OF BULK AT MOST 1048576: true; the input reads as it did. -/
def trimSeesUptoRow : OpenClaim := { program := "ytanlecnnfoapeaa", sum := "0895d1db60b7553730f841a4e79ef60c9c16f119ec2dbd685132dcc8d36dc55d", func := "icebox/iceboxlaw23.TrimSees", spec := "trimSees", unfollowed := true, recurses := true, apart := false, narrowed := true }
def TrimSeesUptoSaid : Prop := trimSeesUptoRow.holds Try.pinned (OpenSpec.upto trimSeesSpec)

/-- 'iceboxlaw23.TrimBottom', WHERE WHAT IT READS IS OF BULK AT MOST 1048576: true; the input reads as it did. -/
def trimBottomUptoRow : OpenClaim := { program := "ytanlecnnfoapeaa", sum := "0895d1db60b7553730f841a4e79ef60c9c16f119ec2dbd685132dcc8d36dc55d", func := "icebox/iceboxlaw23.TrimBottom", spec := "trimBottom", unfollowed := true, recurses := true, apart := false, narrowed := true }
def TrimBottomUptoSaid : Prop := trimBottomUptoRow.holds Try.pinned (OpenSpec.upto trimBottomSpec)

/-- 'iceboxlaw23.TrimTwice', WHERE WHAT IT READS IS OF BULK AT MOST 1048576: true; the input reads as it did. -/
def trimTwiceUptoRow : OpenClaim := { program := "ytanlecnnfoapeaa", sum := "0895d1db60b7553730f841a4e79ef60c9c16f119ec2dbd685132dcc8d36dc55d", func := "icebox/iceboxlaw23.TrimTwice", spec := "trimTwice", unfollowed := true, recurses := true, apart := false, narrowed := true }
def TrimTwiceUptoSaid : Prop := trimTwiceUptoRow.holds Try.pinned (OpenSpec.upto trimTwiceSpec)

/-- 'iceboxlaw23.TrimAll', WHERE WHAT IT READS IS OF BULK AT MOST 1048576: true; the input reads as it did. -/
def trimAllUptoRow : OpenClaim := { program := "ytanlecnnfoapeaa", sum := "0895d1db60b7553730f841a4e79ef60c9c16f119ec2dbd685132dcc8d36dc55d", func := "icebox/iceboxlaw23.TrimAll", spec := "trimAll", unfollowed := true, recurses := true, apart := false, narrowed := true }
def TrimAllUptoSaid : Prop := trimAllUptoRow.holds Try.pinned (OpenSpec.upto trimAllSpec)

/-- 'iceboxlaw23.TrimMade', WHERE WHAT IT READS IS OF BULK AT MOST 1048576: true; the input reads as it did. -/
def trimMadeUptoRow : OpenClaim := { program := "ytanlecnnfoapeaa", sum := "0895d1db60b7553730f841a4e79ef60c9c16f119ec2dbd685132dcc8d36dc55d", func := "icebox/iceboxlaw23.TrimMade", spec := "trimMade", unfollowed := true, recurses := true, apart := false, narrowed := true }
def TrimMadeUptoSaid : Prop := trimMadeUptoRow.holds Try.pinned (OpenSpec.upto trimMadeSpec)

/-- 'iceboxlaw23.TrimParts', WHERE WHAT IT READS IS OF BULK AT MOST 1048576: true; the input reads as it did. -/
def trimPartsUptoRow : OpenClaim := { program := "ytanlecnnfoapeaa", sum := "0895d1db60b7553730f841a4e79ef60c9c16f119ec2dbd685132dcc8d36dc55d", func := "icebox/iceboxlaw23.TrimParts", spec := "trimParts", unfollowed := true, recurses := true, apart := false, narrowed := true }
def TrimPartsUptoSaid : Prop := trimPartsUptoRow.holds Try.pinned (OpenSpec.upto trimPartsSpec)

end Rows
end Go.Proofs.Ytanlecnnfoapeaa
