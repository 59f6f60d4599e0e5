/-
  No cell of these rows narrows 'for every input' (looked for: loops, veiled, ifaces, maps, wideKeys, modest, calm, conditions, laid).
  DERIVED. THE GIVEN ROWS OF THIS SEAT. 10 by the template 'for every input the law returns true; each argument reads behind the call as it read before'; 0 by the template 'total and deterministic' (their statements: YtbedfilammjlpaaTotals.lean).
  GIVEN WITH THE SEED: the statements are not yours to turn. If you find one false, say at which input.
  Laid BY PROGRAM, IN A SANDBOX (cutbox-rows.mjs): the forced cells as the released guide's own fill.sh prints them over the translation 5eda1fee97eaec10… (all of the seat's roots in one cut). By AI agents, Wed Nov 11 2026. No macro, syntax, notation, axiom, sorry.
-/
import Derived.Test.YtbedfilammjlpaaChecked
import GoSem.Claim
import GoSem.ClaimJoined
import GoSem.ClaimMapViews
import Derived.JoinedTies
import Derived.KernelRfl
namespace Go.Proofs.Ytbedfilammjlpaa
/- THE CELL 'sum', in the pinned program and in every row, IS THE sha256 OF THE DUMP (.gsa) THAT YtbedfilammjlpaaProg.lean LOADS. Nothing in Lean hashes anything: it is a label: what it is worth is what the hold of that sum in a sandbox is worth. -/
noncomputable def Try.pinned : Pinned := { name := "ytbedfilammjlpaa", sum := "5eda1fee97eaec10177cbe51eb54858d967a043cd94af7881d74630cd0af2119", checked := Try.checked }
namespace Rows
def none {H : Type} : Left H := { results := [], args := [] }

/-- 'iceboxlaw5.FarFails': WHATEVER THE INPUT: true; the input reads as it did. -/
def farFailsSpec : ChangeSpec := { name := "farFails", fn := fun _ => fun
  | [d1, d2, d3] => { results := [.lit (.bool true)], args := [d1, d2, d3] }
  | _ => none }
def farFailsRow : OpenClaim := { program := "ytbedfilammjlpaa", sum := "5eda1fee97eaec10177cbe51eb54858d967a043cd94af7881d74630cd0af2119", func := "icebox/iceboxlaw5.FarFails", spec := "farFails", unfollowed := true, recurses := true, apart := false }
def FarFailsSaid : Prop := farFailsRow.holds Try.pinned (OpenSpec.ofChange farFailsSpec)

/-- ITS FALSE NEIGHBOUR: 'it returns false'. Refute it at one input. -/
def farFailsWrong : ChangeSpec := { name := "farFails", fn := fun _ => fun
  | [d1, d2, d3] => { results := [.lit (.bool false)], args := [d1, d2, d3] }
  | _ => none }
def FarFailsWrongFalsely : Prop := farFailsRow.holds Try.pinned (OpenSpec.ofChange farFailsWrong)

/-- 'iceboxlaw5.FarKeeps': WHATEVER THE INPUT: true; the input reads as it did. -/
def farKeepsSpec : ChangeSpec := { name := "farKeeps", fn := fun _ => fun
  | [d1, d2, d3] => { results := [.lit (.bool true)], args := [d1, d2, d3] }
  | _ => none }
def farKeepsRow : OpenClaim := { program := "ytbedfilammjlpaa", sum := "5eda1fee97eaec10177cbe51eb54858d967a043cd94af7881d74630cd0af2119", func := "icebox/iceboxlaw5.FarKeeps", spec := "farKeeps", unfollowed := true, recurses := true, apart := false }
def FarKeepsSaid : Prop := farKeepsRow.holds Try.pinned (OpenSpec.ofChange farKeepsSpec)

/-- ITS FALSE NEIGHBOUR: 'it returns false'. Refute it at one input. -/
def farKeepsWrong : ChangeSpec := { name := "farKeeps", fn := fun _ => fun
  | [d1, d2, d3] => { results := [.lit (.bool false)], args := [d1, d2, d3] }
  | _ => none }
def FarKeepsWrongFalsely : Prop := farKeepsRow.holds Try.pinned (OpenSpec.ofChange farKeepsWrong)

/-- 'iceboxlaw6.ClientOther': WHATEVER THE INPUT: true; the input reads as it did. -/
def clientOtherSpec : ChangeSpec := { name := "clientOther", fn := fun _ => fun
  | [d1, d2] => { results := [.lit (.bool true)], args := [d1, d2] }
  | _ => none }
def clientOtherRow : OpenClaim := { program := "ytbedfilammjlpaa", sum := "5eda1fee97eaec10177cbe51eb54858d967a043cd94af7881d74630cd0af2119", func := "icebox/iceboxlaw6.ClientOther", spec := "clientOther", unfollowed := true, recurses := true, apart := false }
def ClientOtherSaid : Prop := clientOtherRow.holds Try.pinned (OpenSpec.ofChange clientOtherSpec)

/-- ITS FALSE NEIGHBOUR: 'it returns false'. Refute it at one input. -/
def clientOtherWrong : ChangeSpec := { name := "clientOther", fn := fun _ => fun
  | [d1, d2] => { results := [.lit (.bool false)], args := [d1, d2] }
  | _ => none }
def ClientOtherWrongFalsely : Prop := clientOtherRow.holds Try.pinned (OpenSpec.ofChange clientOtherWrong)

/-- 'iceboxlaw6.ClientPieces': WHATEVER THE INPUT: true; the input reads as it did. -/
def clientPiecesSpec : ChangeSpec := { name := "clientPieces", fn := fun _ => fun
  | [d1, d2] => { results := [.lit (.bool true)], args := [d1, d2] }
  | _ => none }
def clientPiecesRow : OpenClaim := { program := "ytbedfilammjlpaa", sum := "5eda1fee97eaec10177cbe51eb54858d967a043cd94af7881d74630cd0af2119", func := "icebox/iceboxlaw6.ClientPieces", spec := "clientPieces", unfollowed := true, recurses := true, apart := false }
def ClientPiecesSaid : Prop := clientPiecesRow.holds Try.pinned (OpenSpec.ofChange clientPiecesSpec)

/-- ITS FALSE NEIGHBOUR: 'it returns false'. Refute it at one input. -/
def clientPiecesWrong : ChangeSpec := { name := "clientPieces", fn := fun _ => fun
  | [d1, d2] => { results := [.lit (.bool false)], args := [d1, d2] }
  | _ => none }
def ClientPiecesWrongFalsely : Prop := clientPiecesRow.holds Try.pinned (OpenSpec.ofChange clientPiecesWrong)

/-- 'iceboxlaw5.FarRuns': WHATEVER THE INPUT: true; the input reads as it did. -/
def farRunsSpec : ChangeSpec := { name := "farRuns", fn := fun _ => fun
  | [d] => { results := [.lit (.bool true)], args := [d] }
  | _ => none }
def farRunsRow : OpenClaim := { program := "ytbedfilammjlpaa", sum := "5eda1fee97eaec10177cbe51eb54858d967a043cd94af7881d74630cd0af2119", func := "icebox/iceboxlaw5.FarRuns", spec := "farRuns", unfollowed := true, recurses := true, apart := false }
def FarRunsSaid : Prop := farRunsRow.holds Try.pinned (OpenSpec.ofChange farRunsSpec)

/-- ITS FALSE NEIGHBOUR: 'it returns false'. Refute it at one input. -/
def farRunsWrong : ChangeSpec := { name := "farRuns", fn := fun _ => fun
  | [d] => { results := [.lit (.bool false)], args := [d] }
  | _ => none }
def FarRunsWrongFalsely : Prop := farRunsRow.holds Try.pinned (OpenSpec.ofChange farRunsWrong)

/-- 'iceboxlaw5.FarNil': WHATEVER THE INPUT: true; the input reads as it did. -/
def farNilSpec : ChangeSpec := { name := "farNil", fn := fun _ => fun
  | [d1, d2, d3, d4] => { results := [.lit (.bool true)], args := [d1, d2, d3, d4] }
  | _ => none }
def farNilRow : OpenClaim := { program := "ytbedfilammjlpaa", sum := "5eda1fee97eaec10177cbe51eb54858d967a043cd94af7881d74630cd0af2119", func := "icebox/iceboxlaw5.FarNil", spec := "farNil", unfollowed := true, recurses := true, apart := false }
def FarNilSaid : Prop := farNilRow.holds Try.pinned (OpenSpec.ofChange farNilSpec)

/-- ITS FALSE NEIGHBOUR: 'it returns false'. Refute it at one input. -/
def farNilWrong : ChangeSpec := { name := "farNil", fn := fun _ => fun
  | [d1, d2, d3, d4] => { results := [.lit (.bool false)], args := [d1, d2, d3, d4] }
  | _ => none }
def FarNilWrongFalsely : Prop := farNilRow.holds Try.pinned (OpenSpec.ofChange farNilWrong)

/-- 'iceboxlaw6.ClientGives': WHATEVER THE INPUT: true; the input reads as it did. -/
def clientGivesSpec : ChangeSpec := { name := "clientGives", fn := fun _ => fun
  | [d1, d2] => { results := [.lit (.bool true)], args := [d1, d2] }
  | _ => none }
def clientGivesRow : OpenClaim := { program := "ytbedfilammjlpaa", sum := "5eda1fee97eaec10177cbe51eb54858d967a043cd94af7881d74630cd0af2119", func := "icebox/iceboxlaw6.ClientGives", spec := "clientGives", unfollowed := true, recurses := true, apart := false }
def ClientGivesSaid : Prop := clientGivesRow.holds Try.pinned (OpenSpec.ofChange clientGivesSpec)

/-- ITS FALSE NEIGHBOUR: 'it returns false'. Refute it at one input. -/
def clientGivesWrong : ChangeSpec := { name := "clientGives", fn := fun _ => fun
  | [d1, d2] => { results := [.lit (.bool false)], args := [d1, d2] }
  | _ => none }
def ClientGivesWrongFalsely : Prop := clientGivesRow.holds Try.pinned (OpenSpec.ofChange clientGivesWrong)

/-- 'iceboxlaw6.ClientOnce': WHATEVER THE INPUT: true; the input reads as it did. -/
def clientOnceSpec : ChangeSpec := { name := "clientOnce", fn := fun _ => fun
  | [d1, d2, d3, d4, d5] => { results := [.lit (.bool true)], args := [d1, d2, d3, d4, d5] }
  | _ => none }
def clientOnceRow : OpenClaim := { program := "ytbedfilammjlpaa", sum := "5eda1fee97eaec10177cbe51eb54858d967a043cd94af7881d74630cd0af2119", func := "icebox/iceboxlaw6.ClientOnce", spec := "clientOnce", unfollowed := true, recurses := true, apart := false }
def ClientOnceSaid : Prop := clientOnceRow.holds Try.pinned (OpenSpec.ofChange clientOnceSpec)

/-- ITS FALSE NEIGHBOUR: 'it returns false'. Refute it at one input. -/
def clientOnceWrong : ChangeSpec := { name := "clientOnce", fn := fun _ => fun
  | [d1, d2, d3, d4, d5] => { results := [.lit (.bool false)], args := [d1, d2, d3, d4, d5] }
  | _ => none }
def ClientOnceWrongFalsely : Prop := clientOnceRow.holds Try.pinned (OpenSpec.ofChange clientOnceWrong)

/-- 'iceboxlaw6.ClientNil': WHATEVER THE INPUT: true; the input reads as it did. -/
def clientNilSpec : ChangeSpec := { name := "clientNil", fn := fun _ => fun
  | [d1, d2, d3, d4] => { results := [.lit (.bool true)], args := [d1, d2, d3, d4] }
  | _ => none }
def clientNilRow : OpenClaim := { program := "ytbedfilammjlpaa", sum := "5eda1fee97eaec10177cbe51eb54858d967a043cd94af7881d74630cd0af2119", func := "icebox/iceboxlaw6.ClientNil", spec := "clientNil", unfollowed := true, recurses := true, apart := false }
def ClientNilSaid : Prop := clientNilRow.holds Try.pinned (OpenSpec.ofChange clientNilSpec)

/-- ITS FALSE NEIGHBOUR: 'it returns false'. Refute it at one input. -/
def clientNilWrong : ChangeSpec := { name := "clientNil", fn := fun _ => fun
  | [d1, d2, d3, d4] => { results := [.lit (.bool false)], args := [d1, d2, d3, d4] }
  | _ => none }
def ClientNilWrongFalsely : Prop := clientNilRow.holds Try.pinned (OpenSpec.ofChange clientNilWrong)

/-- 'iceboxlaw6.ClientRuns': WHATEVER THE INPUT: true; the input reads as it did. -/
def clientRunsSpec : ChangeSpec := { name := "clientRuns", fn := fun _ => fun
  | [d] => { results := [.lit (.bool true)], args := [d] }
  | _ => none }
def clientRunsRow : OpenClaim := { program := "ytbedfilammjlpaa", sum := "5eda1fee97eaec10177cbe51eb54858d967a043cd94af7881d74630cd0af2119", func := "icebox/iceboxlaw6.ClientRuns", spec := "clientRuns", unfollowed := true, recurses := true, apart := false }
def ClientRunsSaid : Prop := clientRunsRow.holds Try.pinned (OpenSpec.ofChange clientRunsSpec)

/-- ITS FALSE NEIGHBOUR: 'it returns false'. Refute it at one input. -/
def clientRunsWrong : ChangeSpec := { name := "clientRuns", fn := fun _ => fun
  | [d] => { results := [.lit (.bool false)], args := [d] }
  | _ => none }
def ClientRunsWrongFalsely : Prop := clientRunsRow.holds Try.pinned (OpenSpec.ofChange clientRunsWrong)

/- THE SECOND FORM. 'bulk': how many values and letters a reading holds, each counted each time it is reached (what is shared counts as often as it is met; a slice's spare places count too). A statement '..UptoSaid' is the law's where the arguments, and the package variables that the reading takes, are together of bulk at most 1048576: NARROWER than '..Said'. Prove '..Said' where nothing that the law and all that it calls make is longer than what came in: it says more and counts as full. Else prove '..UptoSaid'. A law counts once. -/
mutual
def uptoBulk {H : Type} : DataW H → Nat
  | .lit (.string bytes) => bytes.length + 1
  | .lit _ => 1
  | .nil => 1
  | .ptr d => uptoBulk d + 1
  | .slice elems spare => uptoBulkAll elems + uptoBulkAll spare + 1
  | .agg parts => uptoBulkAll parts + 1
  | .iface _ d => uptoBulk d + 1
  | .map entries => uptoBulkEntries entries + 1
  | .held _ => 1
def uptoBulkAll {H : Type} : List (DataW H) → Nat
  | [] => 0
  | d :: r => uptoBulk d + uptoBulkAll r
def uptoBulkEntries {H : Type} : List (Lit × DataW H) → Nat
  | [] => 0
  | x :: r => uptoBulkEntry x + uptoBulkEntries r
def uptoBulkEntry {H : Type} : Lit × DataW H → Nat
  | (.string bytes, d) => bytes.length + uptoBulk d + 1
  | (_, d) => uptoBulk d + 1
 end
def uptoSmall : (H : Type) → List (DataW H) → Bool := fun _ ds => decide (uptoBulkAll ds ≤ 1048576)
def OpenSpec.upto (s : _root_.Go.ChangeSpec) : _root_.Go.OpenSpec := { _root_.Go.OpenSpec.ofChange s with cond := some uptoSmall }

/-- 'iceboxlaw5.FarFails', WHERE WHAT IT READS IS OF BULK AT MOST 1048576: true; the input reads as it did. -/
def farFailsUptoRow : OpenClaim := { program := "ytbedfilammjlpaa", sum := "5eda1fee97eaec10177cbe51eb54858d967a043cd94af7881d74630cd0af2119", func := "icebox/iceboxlaw5.FarFails", spec := "farFails", unfollowed := true, recurses := true, apart := false, narrowed := true }
def FarFailsUptoSaid : Prop := farFailsUptoRow.holds Try.pinned (OpenSpec.upto farFailsSpec)

/-- 'iceboxlaw5.FarKeeps', WHERE WHAT IT READS IS OF BULK AT MOST 1048576: true; the input reads as it did. -/
def farKeepsUptoRow : OpenClaim := { program := "ytbedfilammjlpaa", sum := "5eda1fee97eaec10177cbe51eb54858d967a043cd94af7881d74630cd0af2119", func := "icebox/iceboxlaw5.FarKeeps", spec := "farKeeps", unfollowed := true, recurses := true, apart := false, narrowed := true }
def FarKeepsUptoSaid : Prop := farKeepsUptoRow.holds Try.pinned (OpenSpec.upto farKeepsSpec)

/-- 'iceboxlaw6.ClientOther', WHERE WHAT IT READS IS OF BULK AT MOST 1048576: true; the input reads as it did. -/
def clientOtherUptoRow : OpenClaim := { program := "ytbedfilammjlpaa", sum := "5eda1fee97eaec10177cbe51eb54858d967a043cd94af7881d74630cd0af2119", func := "icebox/iceboxlaw6.ClientOther", spec := "clientOther", unfollowed := true, recurses := true, apart := false, narrowed := true }
def ClientOtherUptoSaid : Prop := clientOtherUptoRow.holds Try.pinned (OpenSpec.upto clientOtherSpec)

/-- 'iceboxlaw6.ClientPieces', WHERE WHAT IT READS IS OF BULK AT MOST 1048576: true; the input reads as it did. -/
def clientPiecesUptoRow : OpenClaim := { program := "ytbedfilammjlpaa", sum := "5eda1fee97eaec10177cbe51eb54858d967a043cd94af7881d74630cd0af2119", func := "icebox/iceboxlaw6.ClientPieces", spec := "clientPieces", unfollowed := true, recurses := true, apart := false, narrowed := true }
def ClientPiecesUptoSaid : Prop := clientPiecesUptoRow.holds Try.pinned (OpenSpec.upto clientPiecesSpec)

/-- 'iceboxlaw5.FarRuns', WHERE WHAT IT READS IS OF BULK AT MOST 1048576: true; the input reads as it did. -/
def farRunsUptoRow : OpenClaim := { program := "ytbedfilammjlpaa", sum := "5eda1fee97eaec10177cbe51eb54858d967a043cd94af7881d74630cd0af2119", func := "icebox/iceboxlaw5.FarRuns", spec := "farRuns", unfollowed := true, recurses := true, apart := false, narrowed := true }
def FarRunsUptoSaid : Prop := farRunsUptoRow.holds Try.pinned (OpenSpec.upto farRunsSpec)

/-- 'iceboxlaw5.FarNil', WHERE WHAT IT READS IS OF BULK AT MOST 1048576: true; the input reads as it did. -/
def farNilUptoRow : OpenClaim := { program := "ytbedfilammjlpaa", sum := "5eda1fee97eaec10177cbe51eb54858d967a043cd94af7881d74630cd0af2119", func := "icebox/iceboxlaw5.FarNil", spec := "farNil", unfollowed := true, recurses := true, apart := false, narrowed := true }
def FarNilUptoSaid : Prop := farNilUptoRow.holds Try.pinned (OpenSpec.upto farNilSpec)

/-- 'iceboxlaw6.ClientGives', WHERE WHAT IT READS IS OF BULK AT MOST 1048576: true; the input reads as it did. -/
def clientGivesUptoRow : OpenClaim := { program := "ytbedfilammjlpaa", sum := "5eda1fee97eaec10177cbe51eb54858d967a043cd94af7881d74630cd0af2119", func := "icebox/iceboxlaw6.ClientGives", spec := "clientGives", unfollowed := true, recurses := true, apart := false, narrowed := true }
def ClientGivesUptoSaid : Prop := clientGivesUptoRow.holds Try.pinned (OpenSpec.upto clientGivesSpec)

/-- 'iceboxlaw6.ClientOnce', WHERE WHAT IT READS IS OF BULK AT MOST 1048576: true; the input reads as it did. -/
def clientOnceUptoRow : OpenClaim := { program := "ytbedfilammjlpaa", sum := "5eda1fee97eaec10177cbe51eb54858d967a043cd94af7881d74630cd0af2119", func := "icebox/iceboxlaw6.ClientOnce", spec := "clientOnce", unfollowed := true, recurses := true, apart := false, narrowed := true }
def ClientOnceUptoSaid : Prop := clientOnceUptoRow.holds Try.pinned (OpenSpec.upto clientOnceSpec)

/-- 'iceboxlaw6.ClientNil', WHERE WHAT IT READS IS OF BULK AT MOST 1048576: true; the input reads as it did. -/
def clientNilUptoRow : OpenClaim := { program := "ytbedfilammjlpaa", sum := "5eda1fee97eaec10177cbe51eb54858d967a043cd94af7881d74630cd0af2119", func := "icebox/iceboxlaw6.ClientNil", spec := "clientNil", unfollowed := true, recurses := true, apart := false, narrowed := true }
def ClientNilUptoSaid : Prop := clientNilUptoRow.holds Try.pinned (OpenSpec.upto clientNilSpec)

/-- 'iceboxlaw6.ClientRuns', WHERE WHAT IT READS IS OF BULK AT MOST 1048576: true; the input reads as it did. -/
def clientRunsUptoRow : OpenClaim := { program := "ytbedfilammjlpaa", sum := "5eda1fee97eaec10177cbe51eb54858d967a043cd94af7881d74630cd0af2119", func := "icebox/iceboxlaw6.ClientRuns", spec := "clientRuns", unfollowed := true, recurses := true, apart := false, narrowed := true }
def ClientRunsUptoSaid : Prop := clientRunsUptoRow.holds Try.pinned (OpenSpec.upto clientRunsSpec)

end Rows
end Go.Proofs.Ytbedfilammjlpaa
