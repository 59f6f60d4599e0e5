/-
  No cell of these rows narrows 'for every input' (looked for: loops, veiled, ifaces, maps, wideKeys, modest, calm, conditions, laid).
  DERIVED. THE GIVEN ROWS OF THIS SEAT. 4 by the template 'for every input the law returns true; each argument reads behind the call as it read before'; 0 by the template 'total and deterministic' (their statements: YtbmkjcgbnddgdaaTotals.lean).
  GIVEN WITH THE SEED: the statements are not yours to turn. If you find one false, say at which input.
  Laid BY PROGRAM, IN A SANDBOX (cutbox-rows.mjs): the forced cells as the released guide's own fill.sh prints them over the translation ad68b91e9a43090f… (all of the seat's roots in one cut). By AI agents, Wed Nov 11 2026. No macro, syntax, notation, axiom, sorry.
-/
import Derived.Test.YtbmkjcgbnddgdaaChecked
import GoSem.Claim
import GoSem.ClaimJoined
import GoSem.ClaimMapViews
import Derived.JoinedTies
import Derived.KernelRfl
namespace Go.Proofs.Ytbmkjcgbnddgdaa
/- THE CELL 'sum', in the pinned program and in every row, IS THE sha256 OF THE DUMP (.gsa) THAT YtbmkjcgbnddgdaaProg.lean LOADS. Nothing in Lean hashes anything: it is a label: what it is worth is what the hold of that sum in a sandbox is worth. -/
noncomputable def Try.pinned : Pinned := { name := "ytbmkjcgbnddgdaa", sum := "ad68b91e9a43090f081ab3971a5c10524e039ba27af134502295e229870a2dec", checked := Try.checked }
namespace Rows
def none {H : Type} : Left H := { results := [], args := [] }

/-- 'iceboxlaw22.ScoreEdges': WHATEVER THE INPUT: true; the input reads as it did. -/
def scoreEdgesSpec : ChangeSpec := { name := "scoreEdges", fn := fun _ => fun
  | [d1, d2, d3, d4] => { results := [.lit (.bool true)], args := [d1, d2, d3, d4] }
  | _ => none }
def scoreEdgesRow : OpenClaim := { program := "ytbmkjcgbnddgdaa", sum := "ad68b91e9a43090f081ab3971a5c10524e039ba27af134502295e229870a2dec", func := "icebox/iceboxlaw22.ScoreEdges", spec := "scoreEdges", inPlace := ["math.Float64bits", "math.Float64frombits"], apart := false }
def ScoreEdgesSaid : Prop := scoreEdgesRow.holds Try.pinned (OpenSpec.ofChange scoreEdgesSpec)

/-- ITS FALSE NEIGHBOUR: 'it returns false'. Refute it at one input. -/
def scoreEdgesWrong : ChangeSpec := { name := "scoreEdges", fn := fun _ => fun
  | [d1, d2, d3, d4] => { results := [.lit (.bool false)], args := [d1, d2, d3, d4] }
  | _ => none }
def ScoreEdgesWrongFalsely : Prop := scoreEdgesRow.holds Try.pinned (OpenSpec.ofChange scoreEdgesWrong)

/-- 'iceboxlaw22.ScoreAll': WHATEVER THE INPUT: true; the input reads as it did. -/
def scoreAllSpec : ChangeSpec := { name := "scoreAll", fn := fun _ => fun
  | [d1, d2, d3, d4] => { results := [.lit (.bool true)], args := [d1, d2, d3, d4] }
  | _ => none }
def scoreAllRow : OpenClaim := { program := "ytbmkjcgbnddgdaa", sum := "ad68b91e9a43090f081ab3971a5c10524e039ba27af134502295e229870a2dec", func := "icebox/iceboxlaw22.ScoreAll", spec := "scoreAll", inPlace := ["math.Float64bits", "math.Float64frombits"], apart := false }
def ScoreAllSaid : Prop := scoreAllRow.holds Try.pinned (OpenSpec.ofChange scoreAllSpec)

/-- ITS FALSE NEIGHBOUR: 'it returns false'. Refute it at one input. -/
def scoreAllWrong : ChangeSpec := { name := "scoreAll", fn := fun _ => fun
  | [d1, d2, d3, d4] => { results := [.lit (.bool false)], args := [d1, d2, d3, d4] }
  | _ => none }
def ScoreAllWrongFalsely : Prop := scoreAllRow.holds Try.pinned (OpenSpec.ofChange scoreAllWrong)

/-- 'iceboxlaw22.ScorePicks': WHATEVER THE INPUT: true; the input reads as it did. -/
def scorePicksSpec : ChangeSpec := { name := "scorePicks", fn := fun _ => fun
  | [d1, d2] => { results := [.lit (.bool true)], args := [d1, d2] }
  | _ => none }
def scorePicksRow : OpenClaim := { program := "ytbmkjcgbnddgdaa", sum := "ad68b91e9a43090f081ab3971a5c10524e039ba27af134502295e229870a2dec", func := "icebox/iceboxlaw22.ScorePicks", spec := "scorePicks", inPlace := ["math.Float64bits", "math.Float64frombits"], apart := false }
def ScorePicksSaid : Prop := scorePicksRow.holds Try.pinned (OpenSpec.ofChange scorePicksSpec)

/-- ITS FALSE NEIGHBOUR: 'it returns false'. Refute it at one input. -/
def scorePicksWrong : ChangeSpec := { name := "scorePicks", fn := fun _ => fun
  | [d1, d2] => { results := [.lit (.bool false)], args := [d1, d2] }
  | _ => none }
def ScorePicksWrongFalsely : Prop := scorePicksRow.holds Try.pinned (OpenSpec.ofChange scorePicksWrong)

/-- 'iceboxlaw22.ScoreMade': WHATEVER THE INPUT: true; the input reads as it did. -/
def scoreMadeSpec : ChangeSpec := { name := "scoreMade", fn := fun _ => fun
  | [d1, d2] => { results := [.lit (.bool true)], args := [d1, d2] }
  | _ => none }
def scoreMadeRow : OpenClaim := { program := "ytbmkjcgbnddgdaa", sum := "ad68b91e9a43090f081ab3971a5c10524e039ba27af134502295e229870a2dec", func := "icebox/iceboxlaw22.ScoreMade", spec := "scoreMade", inPlace := ["math.Float64frombits", "math.Float64bits"], apart := false }
def ScoreMadeSaid : Prop := scoreMadeRow.holds Try.pinned (OpenSpec.ofChange scoreMadeSpec)

/-- ITS FALSE NEIGHBOUR: 'it returns false'. Refute it at one input. -/
def scoreMadeWrong : ChangeSpec := { name := "scoreMade", fn := fun _ => fun
  | [d1, d2] => { results := [.lit (.bool false)], args := [d1, d2] }
  | _ => none }
def ScoreMadeWrongFalsely : Prop := scoreMadeRow.holds Try.pinned (OpenSpec.ofChange scoreMadeWrong)

/- THE SECOND FORM. 'bulk': how many values and letters a reading holds, each counted each time it is reached (what is shared counts as often as it is met; a slice's spare places count too). A statement '..UptoSaid' is the law's where the arguments, and the package variables that the reading takes, are together of bulk at most 1048576: NARROWER than '..Said'. Prove '..Said' where nothing that the law and all that it calls make is longer than what came in: it says more and counts as full. Else prove '..UptoSaid'. A law counts once. -/
mutual
def uptoBulk {H : Type} : DataW H → Nat
  | .lit (.string bytes) => bytes.length + 1
  | .lit _ => 1
  | .nil => 1
  | .ptr d => uptoBulk d + 1
  | .slice elems spare => uptoBulkAll elems + uptoBulkAll spare + 1
  | .agg parts => uptoBulkAll parts + 1
  | .iface _ d => uptoBulk d + 1
  | .map entries => uptoBulkEntries entries + 1
  | .held _ => 1
def uptoBulkAll {H : Type} : List (DataW H) → Nat
  | [] => 0
  | d :: r => uptoBulk d + uptoBulkAll r
def uptoBulkEntries {H : Type} : List (Lit × DataW H) → Nat
  | [] => 0
  | x :: r => uptoBulkEntry x + uptoBulkEntries r
def uptoBulkEntry {H : Type} : Lit × DataW H → Nat
  | (.string bytes, d) => bytes.length + uptoBulk d + 1
  | (_, d) => uptoBulk d + 1
 end
def uptoSmall : (H : Type) → List (DataW H) → Bool := fun _ ds => decide (uptoBulkAll ds ≤ 1048576)
def OpenSpec.upto (s : _root_.Go.ChangeSpec) : _root_.Go.OpenSpec := { _root_.Go.OpenSpec.ofChange s with cond := some uptoSmall }

/-- 'iceboxlaw22.ScoreEdges', WHERE WHAT IT READS IS OF BULK AT MOST 1048576: true; the input reads as it did. -/
def scoreEdgesUptoRow : OpenClaim := { program := "ytbmkjcgbnddgdaa", sum := "ad68b91e9a43090f081ab3971a5c10524e039ba27af134502295e229870a2dec", func := "icebox/iceboxlaw22.ScoreEdges", spec := "scoreEdges", inPlace := ["math.Float64bits", "math.Float64frombits"], apart := false, narrowed := true }
def ScoreEdgesUptoSaid : Prop := scoreEdgesUptoRow.holds Try.pinned (OpenSpec.upto scoreEdgesSpec)

/-- 'iceboxlaw22.ScoreAll', WHERE WHAT IT READS IS OF BULK AT MOST 1048576: true; the input reads as it did. -/
def scoreAllUptoRow : OpenClaim := { program := "ytbmkjcgbnddgdaa", sum := "ad68b91e9a43090f081ab3971a5c10524e039ba27af134502295e229870a2dec", func := "icebox/iceboxlaw22.ScoreAll", spec := "scoreAll", inPlace := ["math.Float64bits", "math.Float64frombits"], apart := false, narrowed := true }
def ScoreAllUptoSaid : Prop := scoreAllUptoRow.holds Try.pinned (OpenSpec.upto scoreAllSpec)

/-- 'iceboxlaw22.ScorePicks', WHERE WHAT IT READS IS OF BULK AT MOST 1048576: true; the input reads as it did. -/
def scorePicksUptoRow : OpenClaim := { program := "ytbmkjcgbnddgdaa", sum := "ad68b91e9a43090f081ab3971a5c10524e039ba27af134502295e229870a2dec", func := "icebox/iceboxlaw22.ScorePicks", spec := "scorePicks", inPlace := ["math.Float64bits", "math.Float64frombits"], apart := false, narrowed := true }
def ScorePicksUptoSaid : Prop := scorePicksUptoRow.holds Try.pinned (OpenSpec.upto scorePicksSpec)

/-- 'iceboxlaw22.ScoreMade', WHERE WHAT IT READS IS OF BULK AT MOST 1048576: true; the input reads as it did. -/
def scoreMadeUptoRow : OpenClaim := { program := "ytbmkjcgbnddgdaa", sum := "ad68b91e9a43090f081ab3971a5c10524e039ba27af134502295e229870a2dec", func := "icebox/iceboxlaw22.ScoreMade", spec := "scoreMade", inPlace := ["math.Float64frombits", "math.Float64bits"], apart := false, narrowed := true }
def ScoreMadeUptoSaid : Prop := scoreMadeUptoRow.holds Try.pinned (OpenSpec.upto scoreMadeSpec)

end Rows
end Go.Proofs.Ytbmkjcgbnddgdaa
