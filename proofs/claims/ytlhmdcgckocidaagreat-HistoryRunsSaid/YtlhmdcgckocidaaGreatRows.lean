/-
  No cell of these rows narrows 'for every input' (looked for: loops, veiled, ifaces, maps, wideKeys, modest, calm, conditions, laid).
  DERIVED. THE GIVEN ROWS OF THIS SEAT. 10 by the template 'for every input the law returns true; each argument reads behind the call as it read before'; 0 by the template 'total and deterministic' (their statements: YtlhmdcgckocidaaGreatTotals.lean).
  GIVEN WITH THE SEED: the statements are not yours to turn. If you find one false, say at which input.
  Laid BY PROGRAM, IN A SANDBOX (cutbox-rows.mjs): the forced cells as the released guide's own fill.sh prints them over the translation 83ecbf755ba571c5… (all of the seat's roots in one cut). By AI agents, Wed Nov 11 2026. No macro, syntax, notation, axiom, sorry.
-/
import Derived.Test.YtlhmdcgckocidaaGreatChecked
import GoSem.Claim
import GoSem.ClaimJoined
import GoSem.ClaimMapViews
import Derived.JoinedTies
import Derived.KernelRfl
namespace Go.Proofs.YtlhmdcgckocidaaGreat
/- THE CELL 'sum', in the pinned program and in every row, IS THE sha256 OF THE DUMP (.gsa) THAT YtlhmdcgckocidaaGreatProg.lean LOADS. Nothing in Lean hashes anything: it is a label: what it is worth is what the hold of that sum in a sandbox is worth. -/
noncomputable def Tryz.pinned : Pinned := { name := "ytlhmdcgckocidaagreat", sum := "83ecbf755ba571c5e15c79fd62851decfa5c8ab29e1866f7c296fde0ac744b4e", checked := Tryz.checked }
namespace Rows
def none {H : Type} : Left H := { results := [], args := [] }

/-- 'wirelaw.ReachSays': WHATEVER THE INPUT: true; the input reads as it did. -/
def reachSaysSpec : ChangeSpec := { name := "reachSays", fn := fun _ => fun
  | [d1, d2, d3, d4, d5] => { results := [.lit (.bool true)], args := [d1, d2, d3, d4, d5] }
  | _ => none }
def reachSaysRow : OpenClaim := { program := "ytlhmdcgckocidaagreat", sum := "83ecbf755ba571c5e15c79fd62851decfa5c8ab29e1866f7c296fde0ac744b4e", func := "wireward/wirelaw.ReachSays", spec := "reachSays", unfollowed := true, recurses := true, plainKeys := false, apart := false }
def ReachSaysSaid : Prop := reachSaysRow.holds Tryz.pinned (OpenSpec.ofChange reachSaysSpec)

/-- ITS FALSE NEIGHBOUR: 'it returns false'. Refute it at one input. -/
def reachSaysWrong : ChangeSpec := { name := "reachSays", fn := fun _ => fun
  | [d1, d2, d3, d4, d5] => { results := [.lit (.bool false)], args := [d1, d2, d3, d4, d5] }
  | _ => none }
def ReachSaysWrongFalsely : Prop := reachSaysRow.holds Tryz.pinned (OpenSpec.ofChange reachSaysWrong)

/-- 'wirekeep.HistoryRuns': WHATEVER THE INPUT: true; the input reads as it did. -/
def historyRunsSpec : ChangeSpec := { name := "historyRuns", fn := fun _ => fun
  | [d1, d2, d3] => { results := [.lit (.bool true)], args := [d1, d2, d3] }
  | _ => none }
def historyRunsRow : OpenClaim := { program := "ytlhmdcgckocidaagreat", sum := "83ecbf755ba571c5e15c79fd62851decfa5c8ab29e1866f7c296fde0ac744b4e", func := "wireward/wirekeep.HistoryRuns", spec := "historyRuns", unfollowed := true, recurses := true, plainKeys := false, apart := false }
def HistoryRunsSaid : Prop := historyRunsRow.holds Tryz.pinned (OpenSpec.ofChange historyRunsSpec)

/-- ITS FALSE NEIGHBOUR: 'it returns false'. Refute it at one input. -/
def historyRunsWrong : ChangeSpec := { name := "historyRuns", fn := fun _ => fun
  | [d1, d2, d3] => { results := [.lit (.bool false)], args := [d1, d2, d3] }
  | _ => none }
def HistoryRunsWrongFalsely : Prop := historyRunsRow.holds Tryz.pinned (OpenSpec.ofChange historyRunsWrong)

/-- 'wirelaw.DifferAt': WHATEVER THE INPUT: true; the input reads as it did. -/
def differAtSpec : ChangeSpec := { name := "differAt", fn := fun _ => fun
  | [d1, d2, d3, d4] => { results := [.lit (.bool true)], args := [d1, d2, d3, d4] }
  | _ => none }
def differAtRow : OpenClaim := { program := "ytlhmdcgckocidaagreat", sum := "83ecbf755ba571c5e15c79fd62851decfa5c8ab29e1866f7c296fde0ac744b4e", func := "wireward/wirelaw.DifferAt", spec := "differAt", unfollowed := true, recurses := true, plainKeys := false, apart := false }
def DifferAtSaid : Prop := differAtRow.holds Tryz.pinned (OpenSpec.ofChange differAtSpec)

/-- ITS FALSE NEIGHBOUR: 'it returns false'. Refute it at one input. -/
def differAtWrong : ChangeSpec := { name := "differAt", fn := fun _ => fun
  | [d1, d2, d3, d4] => { results := [.lit (.bool false)], args := [d1, d2, d3, d4] }
  | _ => none }
def DifferAtWrongFalsely : Prop := differAtRow.holds Tryz.pinned (OpenSpec.ofChange differAtWrong)

/-- 'wirekeep.VerdictSlice': WHATEVER THE INPUT: true; the input reads as it did. -/
def verdictSliceSpec : ChangeSpec := { name := "verdictSlice", fn := fun _ => fun
  | [d1, d2, d3] => { results := [.lit (.bool true)], args := [d1, d2, d3] }
  | _ => none }
def verdictSliceRow : OpenClaim := { program := "ytlhmdcgckocidaagreat", sum := "83ecbf755ba571c5e15c79fd62851decfa5c8ab29e1866f7c296fde0ac744b4e", func := "wireward/wirekeep.VerdictSlice", spec := "verdictSlice", unfollowed := true, recurses := true, plainKeys := false, apart := false }
def VerdictSliceSaid : Prop := verdictSliceRow.holds Tryz.pinned (OpenSpec.ofChange verdictSliceSpec)

/-- ITS FALSE NEIGHBOUR: 'it returns false'. Refute it at one input. -/
def verdictSliceWrong : ChangeSpec := { name := "verdictSlice", fn := fun _ => fun
  | [d1, d2, d3] => { results := [.lit (.bool false)], args := [d1, d2, d3] }
  | _ => none }
def VerdictSliceWrongFalsely : Prop := verdictSliceRow.holds Tryz.pinned (OpenSpec.ofChange verdictSliceWrong)

/-- 'wiretop.TopReached': WHATEVER THE INPUT: true; the input reads as it did. -/
def topReachedSpec : ChangeSpec := { name := "topReached", fn := fun _ => fun
  | [d1, d2, d3] => { results := [.lit (.bool true)], args := [d1, d2, d3] }
  | _ => none }
def topReachedRow : OpenClaim := { program := "ytlhmdcgckocidaagreat", sum := "83ecbf755ba571c5e15c79fd62851decfa5c8ab29e1866f7c296fde0ac744b4e", func := "wireward/wiretop.TopReached", spec := "topReached", unfollowed := true, recurses := true, plainKeys := false, apart := false }
def TopReachedSaid : Prop := topReachedRow.holds Tryz.pinned (OpenSpec.ofChange topReachedSpec)

/-- ITS FALSE NEIGHBOUR: 'it returns false'. Refute it at one input. -/
def topReachedWrong : ChangeSpec := { name := "topReached", fn := fun _ => fun
  | [d1, d2, d3] => { results := [.lit (.bool false)], args := [d1, d2, d3] }
  | _ => none }
def TopReachedWrongFalsely : Prop := topReachedRow.holds Tryz.pinned (OpenSpec.ofChange topReachedWrong)

/-- 'wiretop.TopGuarded': WHATEVER THE INPUT: true; the input reads as it did. -/
def topGuardedSpec : ChangeSpec := { name := "topGuarded", fn := fun _ => fun
  | [d1, d2] => { results := [.lit (.bool true)], args := [d1, d2] }
  | _ => none }
def topGuardedRow : OpenClaim := { program := "ytlhmdcgckocidaagreat", sum := "83ecbf755ba571c5e15c79fd62851decfa5c8ab29e1866f7c296fde0ac744b4e", func := "wireward/wiretop.TopGuarded", spec := "topGuarded", unfollowed := true, recurses := true, plainKeys := false, apart := false }
def TopGuardedSaid : Prop := topGuardedRow.holds Tryz.pinned (OpenSpec.ofChange topGuardedSpec)

/-- ITS FALSE NEIGHBOUR: 'it returns false'. Refute it at one input. -/
def topGuardedWrong : ChangeSpec := { name := "topGuarded", fn := fun _ => fun
  | [d1, d2] => { results := [.lit (.bool false)], args := [d1, d2] }
  | _ => none }
def TopGuardedWrongFalsely : Prop := topGuardedRow.holds Tryz.pinned (OpenSpec.ofChange topGuardedWrong)

/-- 'wiretop.TopHidden': WHATEVER THE INPUT: true; the input reads as it did. -/
def topHiddenSpec : ChangeSpec := { name := "topHidden", fn := fun _ => fun
  | [d1, d2, d3] => { results := [.lit (.bool true)], args := [d1, d2, d3] }
  | _ => none }
def topHiddenRow : OpenClaim := { program := "ytlhmdcgckocidaagreat", sum := "83ecbf755ba571c5e15c79fd62851decfa5c8ab29e1866f7c296fde0ac744b4e", func := "wireward/wiretop.TopHidden", spec := "topHidden", unfollowed := true, recurses := true, plainKeys := false, apart := false }
def TopHiddenSaid : Prop := topHiddenRow.holds Tryz.pinned (OpenSpec.ofChange topHiddenSpec)

/-- ITS FALSE NEIGHBOUR: 'it returns false'. Refute it at one input. -/
def topHiddenWrong : ChangeSpec := { name := "topHidden", fn := fun _ => fun
  | [d1, d2, d3] => { results := [.lit (.bool false)], args := [d1, d2, d3] }
  | _ => none }
def TopHiddenWrongFalsely : Prop := topHiddenRow.holds Tryz.pinned (OpenSpec.ofChange topHiddenWrong)

/-- 'wiretop.TopSpread': WHATEVER THE INPUT: true; the input reads as it did. -/
def topSpreadSpec : ChangeSpec := { name := "topSpread", fn := fun _ => fun
  | [d1, d2] => { results := [.lit (.bool true)], args := [d1, d2] }
  | _ => none }
def topSpreadRow : OpenClaim := { program := "ytlhmdcgckocidaagreat", sum := "83ecbf755ba571c5e15c79fd62851decfa5c8ab29e1866f7c296fde0ac744b4e", func := "wireward/wiretop.TopSpread", spec := "topSpread", unfollowed := true, recurses := true, plainKeys := false, apart := false }
def TopSpreadSaid : Prop := topSpreadRow.holds Tryz.pinned (OpenSpec.ofChange topSpreadSpec)

/-- ITS FALSE NEIGHBOUR: 'it returns false'. Refute it at one input. -/
def topSpreadWrong : ChangeSpec := { name := "topSpread", fn := fun _ => fun
  | [d1, d2] => { results := [.lit (.bool false)], args := [d1, d2] }
  | _ => none }
def TopSpreadWrongFalsely : Prop := topSpreadRow.holds Tryz.pinned (OpenSpec.ofChange topSpreadWrong)

/-- 'wiretop.TopParts': WHATEVER THE INPUT: true; the input reads as it did. -/
def topPartsSpec : ChangeSpec := { name := "topParts", fn := fun _ => fun
  | [d1, d2, d3, d4] => { results := [.lit (.bool true)], args := [d1, d2, d3, d4] }
  | _ => none }
def topPartsRow : OpenClaim := { program := "ytlhmdcgckocidaagreat", sum := "83ecbf755ba571c5e15c79fd62851decfa5c8ab29e1866f7c296fde0ac744b4e", func := "wireward/wiretop.TopParts", spec := "topParts", unfollowed := true, recurses := true, plainKeys := false, apart := false }
def TopPartsSaid : Prop := topPartsRow.holds Tryz.pinned (OpenSpec.ofChange topPartsSpec)

/-- ITS FALSE NEIGHBOUR: 'it returns false'. Refute it at one input. -/
def topPartsWrong : ChangeSpec := { name := "topParts", fn := fun _ => fun
  | [d1, d2, d3, d4] => { results := [.lit (.bool false)], args := [d1, d2, d3, d4] }
  | _ => none }
def TopPartsWrongFalsely : Prop := topPartsRow.holds Tryz.pinned (OpenSpec.ofChange topPartsWrong)

/-- 'wiretop.TopIsolated': WHATEVER THE INPUT: true; the input reads as it did. -/
def topIsolatedSpec : ChangeSpec := { name := "topIsolated", fn := fun _ => fun
  | [d1, d2, d3, d4] => { results := [.lit (.bool true)], args := [d1, d2, d3, d4] }
  | _ => none }
def topIsolatedRow : OpenClaim := { program := "ytlhmdcgckocidaagreat", sum := "83ecbf755ba571c5e15c79fd62851decfa5c8ab29e1866f7c296fde0ac744b4e", func := "wireward/wiretop.TopIsolated", spec := "topIsolated", unfollowed := true, recurses := true, plainKeys := false, apart := false }
def TopIsolatedSaid : Prop := topIsolatedRow.holds Tryz.pinned (OpenSpec.ofChange topIsolatedSpec)

/-- ITS FALSE NEIGHBOUR: 'it returns false'. Refute it at one input. -/
def topIsolatedWrong : ChangeSpec := { name := "topIsolated", fn := fun _ => fun
  | [d1, d2, d3, d4] => { results := [.lit (.bool false)], args := [d1, d2, d3, d4] }
  | _ => none }
def TopIsolatedWrongFalsely : Prop := topIsolatedRow.holds Tryz.pinned (OpenSpec.ofChange topIsolatedWrong)

/- THE SECOND FORM. 'bulk': how many values and letters a reading holds, each counted each time it is reached (what is shared counts as often as it is met; a slice's spare places count too). A statement '..UptoSaid' is the law's where the arguments, and the package variables that the reading takes, are together of bulk at most 1048576: NARROWER than '..Said'. Prove '..Said' where nothing that the law and all that it calls make is longer than what came in: it says more and counts as full. Else prove '..UptoSaid'. A law counts once. -/
mutual
def uptoBulk {H : Type} : DataW H → Nat
  | .lit (.string bytes) => bytes.length + 1
  | .lit _ => 1
  | .nil => 1
  | .ptr d => uptoBulk d + 1
  | .slice elems spare => uptoBulkAll elems + uptoBulkAll spare + 1
  | .agg parts => uptoBulkAll parts + 1
  | .iface _ d => uptoBulk d + 1
  | .map entries => uptoBulkEntries entries + 1
  | .held _ => 1
def uptoBulkAll {H : Type} : List (DataW H) → Nat
  | [] => 0
  | d :: r => uptoBulk d + uptoBulkAll r
def uptoBulkEntries {H : Type} : List (Lit × DataW H) → Nat
  | [] => 0
  | x :: r => uptoBulkEntry x + uptoBulkEntries r
def uptoBulkEntry {H : Type} : Lit × DataW H → Nat
  | (.string bytes, d) => bytes.length + uptoBulk d + 1
  | (_, d) => uptoBulk d + 1
 end
def uptoSmall : (H : Type) → List (DataW H) → Bool := fun _ ds => decide (uptoBulkAll ds ≤ 1048576)
def OpenSpec.upto (s : _root_.Go.ChangeSpec) : _root_.Go.OpenSpec := { _root_.Go.OpenSpec.ofChange s with cond := some uptoSmall }

/-- 'wirelaw.ReachSays', WHERE WHAT IT READS IS OF BULK AT MOST 1048576: true; the input reads as it did. -/
def reachSaysUptoRow : OpenClaim := { program := "ytlhmdcgckocidaagreat", sum := "83ecbf755ba571c5e15c79fd62851decfa5c8ab29e1866f7c296fde0ac744b4e", func := "wireward/wirelaw.ReachSays", spec := "reachSays", unfollowed := true, recurses := true, plainKeys := false, apart := false, narrowed := true }
def ReachSaysUptoSaid : Prop := reachSaysUptoRow.holds Tryz.pinned (OpenSpec.upto reachSaysSpec)

/-- 'wirekeep.HistoryRuns', WHERE WHAT IT READS IS OF BULK AT MOST 1048576: true; the input reads as it did. -/
def historyRunsUptoRow : OpenClaim := { program := "ytlhmdcgckocidaagreat", sum := "83ecbf755ba571c5e15c79fd62851decfa5c8ab29e1866f7c296fde0ac744b4e", func := "wireward/wirekeep.HistoryRuns", spec := "historyRuns", unfollowed := true, recurses := true, plainKeys := false, apart := false, narrowed := true }
def HistoryRunsUptoSaid : Prop := historyRunsUptoRow.holds Tryz.pinned (OpenSpec.upto historyRunsSpec)

/-- 'wirelaw.DifferAt', WHERE WHAT IT READS IS OF BULK AT MOST 1048576: true; the input reads as it did. -/
def differAtUptoRow : OpenClaim := { program := "ytlhmdcgckocidaagreat", sum := "83ecbf755ba571c5e15c79fd62851decfa5c8ab29e1866f7c296fde0ac744b4e", func := "wireward/wirelaw.DifferAt", spec := "differAt", unfollowed := true, recurses := true, plainKeys := false, apart := false, narrowed := true }
def DifferAtUptoSaid : Prop := differAtUptoRow.holds Tryz.pinned (OpenSpec.upto differAtSpec)

/-- 'wirekeep.VerdictSlice', WHERE WHAT IT READS IS OF BULK AT MOST 1048576: true; the input reads as it did. -/
def verdictSliceUptoRow : OpenClaim := { program := "ytlhmdcgckocidaagreat", sum := "83ecbf755ba571c5e15c79fd62851decfa5c8ab29e1866f7c296fde0ac744b4e", func := "wireward/wirekeep.VerdictSlice", spec := "verdictSlice", unfollowed := true, recurses := true, plainKeys := false, apart := false, narrowed := true }
def VerdictSliceUptoSaid : Prop := verdictSliceUptoRow.holds Tryz.pinned (OpenSpec.upto verdictSliceSpec)

/-- 'wiretop.TopReached', WHERE WHAT IT READS IS OF BULK AT MOST 1048576: true; the input reads as it did. -/
def topReachedUptoRow : OpenClaim := { program := "ytlhmdcgckocidaagreat", sum := "83ecbf755ba571c5e15c79fd62851decfa5c8ab29e1866f7c296fde0ac744b4e", func := "wireward/wiretop.TopReached", spec := "topReached", unfollowed := true, recurses := true, plainKeys := false, apart := false, narrowed := true }
def TopReachedUptoSaid : Prop := topReachedUptoRow.holds Tryz.pinned (OpenSpec.upto topReachedSpec)

/-- 'wiretop.TopGuarded', WHERE WHAT IT READS IS OF BULK AT MOST 1048576: true; the input reads as it did. -/
def topGuardedUptoRow : OpenClaim := { program := "ytlhmdcgckocidaagreat", sum := "83ecbf755ba571c5e15c79fd62851decfa5c8ab29e1866f7c296fde0ac744b4e", func := "wireward/wiretop.TopGuarded", spec := "topGuarded", unfollowed := true, recurses := true, plainKeys := false, apart := false, narrowed := true }
def TopGuardedUptoSaid : Prop := topGuardedUptoRow.holds Tryz.pinned (OpenSpec.upto topGuardedSpec)

/-- 'wiretop.TopHidden', WHERE WHAT IT READS IS OF BULK AT MOST 1048576: true; the input reads as it did. -/
def topHiddenUptoRow : OpenClaim := { program := "ytlhmdcgckocidaagreat", sum := "83ecbf755ba571c5e15c79fd62851decfa5c8ab29e1866f7c296fde0ac744b4e", func := "wireward/wiretop.TopHidden", spec := "topHidden", unfollowed := true, recurses := true, plainKeys := false, apart := false, narrowed := true }
def TopHiddenUptoSaid : Prop := topHiddenUptoRow.holds Tryz.pinned (OpenSpec.upto topHiddenSpec)

/-- 'wiretop.TopSpread', WHERE WHAT IT READS IS OF BULK AT MOST 1048576: true; the input reads as it did. -/
def topSpreadUptoRow : OpenClaim := { program := "ytlhmdcgckocidaagreat", sum := "83ecbf755ba571c5e15c79fd62851decfa5c8ab29e1866f7c296fde0ac744b4e", func := "wireward/wiretop.TopSpread", spec := "topSpread", unfollowed := true, recurses := true, plainKeys := false, apart := false, narrowed := true }
def TopSpreadUptoSaid : Prop := topSpreadUptoRow.holds Tryz.pinned (OpenSpec.upto topSpreadSpec)

/-- 'wiretop.TopParts', WHERE WHAT IT READS IS OF BULK AT MOST 1048576: true; the input reads as it did. -/
def topPartsUptoRow : OpenClaim := { program := "ytlhmdcgckocidaagreat", sum := "83ecbf755ba571c5e15c79fd62851decfa5c8ab29e1866f7c296fde0ac744b4e", func := "wireward/wiretop.TopParts", spec := "topParts", unfollowed := true, recurses := true, plainKeys := false, apart := false, narrowed := true }
def TopPartsUptoSaid : Prop := topPartsUptoRow.holds Tryz.pinned (OpenSpec.upto topPartsSpec)

/-- 'wiretop.TopIsolated', WHERE WHAT IT READS IS OF BULK AT MOST 1048576: true; the input reads as it did. -/
def topIsolatedUptoRow : OpenClaim := { program := "ytlhmdcgckocidaagreat", sum := "83ecbf755ba571c5e15c79fd62851decfa5c8ab29e1866f7c296fde0ac744b4e", func := "wireward/wiretop.TopIsolated", spec := "topIsolated", unfollowed := true, recurses := true, plainKeys := false, apart := false, narrowed := true }
def TopIsolatedUptoSaid : Prop := topIsolatedUptoRow.holds Tryz.pinned (OpenSpec.upto topIsolatedSpec)

end Rows
end Go.Proofs.YtlhmdcgckocidaaGreat
