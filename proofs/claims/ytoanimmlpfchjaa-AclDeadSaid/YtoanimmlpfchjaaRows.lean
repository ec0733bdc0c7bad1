/-
  No cell of these rows narrows 'for every input' (looked for: loops, veiled, ifaces, maps, wideKeys, modest, calm, conditions, laid).
  DERIVED. THE GIVEN ROWS OF THIS SEAT. 12 by the template 'for every input the law returns true; each argument reads behind the call as it read before'; 0 by the template 'total and deterministic' (their statements: YtoanimmlpfchjaaTotals.lean).
  GIVEN WITH THE SEED: the statements are not yours to turn. If you find one false, say at which input.
  Laid BY PROGRAM, IN A SANDBOX (cutbox-rows.mjs): the forced cells as the released guide's own fill.sh prints them over the translation 8bd94abdfe0c348c… (all of the seat's roots in one cut). By AI agents, Wed Nov 11 2026. No macro, syntax, notation, axiom, sorry.
-/
import Derived.Test.YtoanimmlpfchjaaChecked
import GoSem.Claim
import GoSem.ClaimJoined
import GoSem.ClaimMapViews
import Derived.JoinedTies
import Derived.KernelRfl
namespace Go.Proofs.Ytoanimmlpfchjaa
/- THE CELL 'sum', in the pinned program and in every row, IS THE sha256 OF THE DUMP (.gsa) THAT YtoanimmlpfchjaaProg.lean LOADS. Nothing in Lean hashes anything: it is a label: what it is worth is what the hold of that sum in a sandbox is worth. -/
noncomputable def Try.pinned : Pinned := { name := "ytoanimmlpfchjaa", sum := "8bd94abdfe0c348c00dd3c7f64dfb1556ca5c764496461602a524cce0fc6022f", checked := Try.checked }
namespace Rows
def none {H : Type} : Left H := { results := [], args := [] }

/-- 'wirelaw.Names': WHATEVER THE INPUT: true; the input reads as it did. -/
def namesSpec : ChangeSpec := { name := "names", fn := fun _ => fun
  | [] => { results := [.lit (.bool true)], args := [] }
  | _ => none }
def namesRow : OpenClaim := { program := "ytoanimmlpfchjaa", sum := "8bd94abdfe0c348c00dd3c7f64dfb1556ca5c764496461602a524cce0fc6022f", func := "wireward/wirelaw.Names", spec := "names", plainKeys := false, apart := false }
def NamesSaid : Prop := namesRow.holds Try.pinned (OpenSpec.ofChange namesSpec)

/-- ITS FALSE NEIGHBOUR: 'it returns false'. Refute it at one input. -/
def namesWrong : ChangeSpec := { name := "names", fn := fun _ => fun
  | [] => { results := [.lit (.bool false)], args := [] }
  | _ => none }
def NamesWrongFalsely : Prop := namesRow.holds Try.pinned (OpenSpec.ofChange namesWrong)

/-- 'wirekeep.MatchMeets': WHATEVER THE INPUT: true; the input reads as it did. -/
def matchMeetsSpec : ChangeSpec := { name := "matchMeets", fn := fun _ => fun
  | [d1, d2, d3] => { results := [.lit (.bool true)], args := [d1, d2, d3] }
  | _ => none }
def matchMeetsRow : OpenClaim := { program := "ytoanimmlpfchjaa", sum := "8bd94abdfe0c348c00dd3c7f64dfb1556ca5c764496461602a524cce0fc6022f", func := "wireward/wirekeep.MatchMeets", spec := "matchMeets", unfollowed := true, recurses := true, plainKeys := false, apart := false }
def MatchMeetsSaid : Prop := matchMeetsRow.holds Try.pinned (OpenSpec.ofChange matchMeetsSpec)

/-- ITS FALSE NEIGHBOUR: 'it returns false'. Refute it at one input. -/
def matchMeetsWrong : ChangeSpec := { name := "matchMeets", fn := fun _ => fun
  | [d1, d2, d3] => { results := [.lit (.bool false)], args := [d1, d2, d3] }
  | _ => none }
def MatchMeetsWrongFalsely : Prop := matchMeetsRow.holds Try.pinned (OpenSpec.ofChange matchMeetsWrong)

/-- 'wirekeep.AclFirst': WHATEVER THE INPUT: true; the input reads as it did. -/
def aclFirstSpec : ChangeSpec := { name := "aclFirst", fn := fun _ => fun
  | [d1, d2, d3, d4] => { results := [.lit (.bool true)], args := [d1, d2, d3, d4] }
  | _ => none }
def aclFirstRow : OpenClaim := { program := "ytoanimmlpfchjaa", sum := "8bd94abdfe0c348c00dd3c7f64dfb1556ca5c764496461602a524cce0fc6022f", func := "wireward/wirekeep.AclFirst", spec := "aclFirst", unfollowed := true, recurses := true, plainKeys := false, apart := false }
def AclFirstSaid : Prop := aclFirstRow.holds Try.pinned (OpenSpec.ofChange aclFirstSpec)

/-- ITS FALSE NEIGHBOUR: 'it returns false'. Refute it at one input. -/
def aclFirstWrong : ChangeSpec := { name := "aclFirst", fn := fun _ => fun
  | [d1, d2, d3, d4] => { results := [.lit (.bool false)], args := [d1, d2, d3, d4] }
  | _ => none }
def AclFirstWrongFalsely : Prop := aclFirstRow.holds Try.pinned (OpenSpec.ofChange aclFirstWrong)

/-- 'wirekeep.FibLongest': WHATEVER THE INPUT: true; the input reads as it did. -/
def fibLongestSpec : ChangeSpec := { name := "fibLongest", fn := fun _ => fun
  | [d1, d2, d3] => { results := [.lit (.bool true)], args := [d1, d2, d3] }
  | _ => none }
def fibLongestRow : OpenClaim := { program := "ytoanimmlpfchjaa", sum := "8bd94abdfe0c348c00dd3c7f64dfb1556ca5c764496461602a524cce0fc6022f", func := "wireward/wirekeep.FibLongest", spec := "fibLongest", plainKeys := false, apart := false }
def FibLongestSaid : Prop := fibLongestRow.holds Try.pinned (OpenSpec.ofChange fibLongestSpec)

/-- ITS FALSE NEIGHBOUR: 'it returns false'. Refute it at one input. -/
def fibLongestWrong : ChangeSpec := { name := "fibLongest", fn := fun _ => fun
  | [d1, d2, d3] => { results := [.lit (.bool false)], args := [d1, d2, d3] }
  | _ => none }
def FibLongestWrongFalsely : Prop := fibLongestRow.holds Try.pinned (OpenSpec.ofChange fibLongestWrong)

/-- 'wirekeep.NetPeers': WHATEVER THE INPUT: true; the input reads as it did. -/
def netPeersSpec : ChangeSpec := { name := "netPeers", fn := fun _ => fun
  | [d] => { results := [.lit (.bool true)], args := [d] }
  | _ => none }
def netPeersRow : OpenClaim := { program := "ytoanimmlpfchjaa", sum := "8bd94abdfe0c348c00dd3c7f64dfb1556ca5c764496461602a524cce0fc6022f", func := "wireward/wirekeep.NetPeers", spec := "netPeers", unfollowed := true, recurses := true, plainKeys := false, apart := false }
def NetPeersSaid : Prop := netPeersRow.holds Try.pinned (OpenSpec.ofChange netPeersSpec)

/-- ITS FALSE NEIGHBOUR: 'it returns false'. Refute it at one input. -/
def netPeersWrong : ChangeSpec := { name := "netPeers", fn := fun _ => fun
  | [d] => { results := [.lit (.bool false)], args := [d] }
  | _ => none }
def NetPeersWrongFalsely : Prop := netPeersRow.holds Try.pinned (OpenSpec.ofChange netPeersWrong)

/-- 'wirelaw.MatchBuilds': WHATEVER THE INPUT: true; the input reads as it did. -/
def matchBuildsSpec : ChangeSpec := { name := "matchBuilds", fn := fun _ => fun
  | [d1, d2] => { results := [.lit (.bool true)], args := [d1, d2] }
  | _ => none }
def matchBuildsRow : OpenClaim := { program := "ytoanimmlpfchjaa", sum := "8bd94abdfe0c348c00dd3c7f64dfb1556ca5c764496461602a524cce0fc6022f", func := "wireward/wirelaw.MatchBuilds", spec := "matchBuilds", unfollowed := true, recurses := true, plainKeys := false, apart := false }
def MatchBuildsSaid : Prop := matchBuildsRow.holds Try.pinned (OpenSpec.ofChange matchBuildsSpec)

/-- ITS FALSE NEIGHBOUR: 'it returns false'. Refute it at one input. -/
def matchBuildsWrong : ChangeSpec := { name := "matchBuilds", fn := fun _ => fun
  | [d1, d2] => { results := [.lit (.bool false)], args := [d1, d2] }
  | _ => none }
def MatchBuildsWrongFalsely : Prop := matchBuildsRow.holds Try.pinned (OpenSpec.ofChange matchBuildsWrong)

/-- 'wirekeep.BddLaws': WHATEVER THE INPUT: true; the input reads as it did. -/
def bddLawsSpec : ChangeSpec := { name := "bddLaws", fn := fun _ => fun
  | [d1, d2, d3, d4] => { results := [.lit (.bool true)], args := [d1, d2, d3, d4] }
  | _ => none }
def bddLawsRow : OpenClaim := { program := "ytoanimmlpfchjaa", sum := "8bd94abdfe0c348c00dd3c7f64dfb1556ca5c764496461602a524cce0fc6022f", func := "wireward/wirekeep.BddLaws", spec := "bddLaws", recurses := true, plainKeys := false, apart := false }
def BddLawsSaid : Prop := bddLawsRow.holds Try.pinned (OpenSpec.ofChange bddLawsSpec)

/-- ITS FALSE NEIGHBOUR: 'it returns false'. Refute it at one input. -/
def bddLawsWrong : ChangeSpec := { name := "bddLaws", fn := fun _ => fun
  | [d1, d2, d3, d4] => { results := [.lit (.bool false)], args := [d1, d2, d3, d4] }
  | _ => none }
def BddLawsWrongFalsely : Prop := bddLawsRow.holds Try.pinned (OpenSpec.ofChange bddLawsWrong)

/-- 'wirelaw.FibSays': WHATEVER THE INPUT: true; the input reads as it did. -/
def fibSaysSpec : ChangeSpec := { name := "fibSays", fn := fun _ => fun
  | [d1, d2, d3] => { results := [.lit (.bool true)], args := [d1, d2, d3] }
  | _ => none }
def fibSaysRow : OpenClaim := { program := "ytoanimmlpfchjaa", sum := "8bd94abdfe0c348c00dd3c7f64dfb1556ca5c764496461602a524cce0fc6022f", func := "wireward/wirelaw.FibSays", spec := "fibSays", unfollowed := true, recurses := true, plainKeys := false, apart := false }
def FibSaysSaid : Prop := fibSaysRow.holds Try.pinned (OpenSpec.ofChange fibSaysSpec)

/-- ITS FALSE NEIGHBOUR: 'it returns false'. Refute it at one input. -/
def fibSaysWrong : ChangeSpec := { name := "fibSays", fn := fun _ => fun
  | [d1, d2, d3] => { results := [.lit (.bool false)], args := [d1, d2, d3] }
  | _ => none }
def FibSaysWrongFalsely : Prop := fibSaysRow.holds Try.pinned (OpenSpec.ofChange fibSaysWrong)

/-- 'wirelaw.BddPlays': WHATEVER THE INPUT: true; the input reads as it did. -/
def bddPlaysSpec : ChangeSpec := { name := "bddPlays", fn := fun _ => fun
  | [d1, d2, d3] => { results := [.lit (.bool true)], args := [d1, d2, d3] }
  | _ => none }
def bddPlaysRow : OpenClaim := { program := "ytoanimmlpfchjaa", sum := "8bd94abdfe0c348c00dd3c7f64dfb1556ca5c764496461602a524cce0fc6022f", func := "wireward/wirelaw.BddPlays", spec := "bddPlays", unfollowed := true, recurses := true, plainKeys := false, apart := false }
def BddPlaysSaid : Prop := bddPlaysRow.holds Try.pinned (OpenSpec.ofChange bddPlaysSpec)

/-- ITS FALSE NEIGHBOUR: 'it returns false'. Refute it at one input. -/
def bddPlaysWrong : ChangeSpec := { name := "bddPlays", fn := fun _ => fun
  | [d1, d2, d3] => { results := [.lit (.bool false)], args := [d1, d2, d3] }
  | _ => none }
def BddPlaysWrongFalsely : Prop := bddPlaysRow.holds Try.pinned (OpenSpec.ofChange bddPlaysWrong)

/-- 'wirelaw.RingWalks': WHATEVER THE INPUT: true; the input reads as it did. -/
def ringWalksSpec : ChangeSpec := { name := "ringWalks", fn := fun _ => fun
  | [d1, d2, d3] => { results := [.lit (.bool true)], args := [d1, d2, d3] }
  | _ => none }
def ringWalksRow : OpenClaim := { program := "ytoanimmlpfchjaa", sum := "8bd94abdfe0c348c00dd3c7f64dfb1556ca5c764496461602a524cce0fc6022f", func := "wireward/wirelaw.RingWalks", spec := "ringWalks", unfollowed := true, recurses := true, plainKeys := false, apart := false }
def RingWalksSaid : Prop := ringWalksRow.holds Try.pinned (OpenSpec.ofChange ringWalksSpec)

/-- ITS FALSE NEIGHBOUR: 'it returns false'. Refute it at one input. -/
def ringWalksWrong : ChangeSpec := { name := "ringWalks", fn := fun _ => fun
  | [d1, d2, d3] => { results := [.lit (.bool false)], args := [d1, d2, d3] }
  | _ => none }
def RingWalksWrongFalsely : Prop := ringWalksRow.holds Try.pinned (OpenSpec.ofChange ringWalksWrong)

/-- 'wirelaw.DifferRules': WHATEVER THE INPUT: true; the input reads as it did. -/
def differRulesSpec : ChangeSpec := { name := "differRules", fn := fun _ => fun
  | [d1, d2, d3] => { results := [.lit (.bool true)], args := [d1, d2, d3] }
  | _ => none }
def differRulesRow : OpenClaim := { program := "ytoanimmlpfchjaa", sum := "8bd94abdfe0c348c00dd3c7f64dfb1556ca5c764496461602a524cce0fc6022f", func := "wireward/wirelaw.DifferRules", spec := "differRules", unfollowed := true, recurses := true, plainKeys := false, apart := false }
def DifferRulesSaid : Prop := differRulesRow.holds Try.pinned (OpenSpec.ofChange differRulesSpec)

/-- ITS FALSE NEIGHBOUR: 'it returns false'. Refute it at one input. -/
def differRulesWrong : ChangeSpec := { name := "differRules", fn := fun _ => fun
  | [d1, d2, d3] => { results := [.lit (.bool false)], args := [d1, d2, d3] }
  | _ => none }
def DifferRulesWrongFalsely : Prop := differRulesRow.holds Try.pinned (OpenSpec.ofChange differRulesWrong)

/-- 'wirekeep.AclDead': WHATEVER THE INPUT: true; the input reads as it did. -/
def aclDeadSpec : ChangeSpec := { name := "aclDead", fn := fun _ => fun
  | [d1, d2] => { results := [.lit (.bool true)], args := [d1, d2] }
  | _ => none }
def aclDeadRow : OpenClaim := { program := "ytoanimmlpfchjaa", sum := "8bd94abdfe0c348c00dd3c7f64dfb1556ca5c764496461602a524cce0fc6022f", func := "wireward/wirekeep.AclDead", spec := "aclDead", unfollowed := true, recurses := true, plainKeys := false, apart := false }
def AclDeadSaid : Prop := aclDeadRow.holds Try.pinned (OpenSpec.ofChange aclDeadSpec)

/-- ITS FALSE NEIGHBOUR: 'it returns false'. Refute it at one input. -/
def aclDeadWrong : ChangeSpec := { name := "aclDead", fn := fun _ => fun
  | [d1, d2] => { results := [.lit (.bool false)], args := [d1, d2] }
  | _ => none }
def AclDeadWrongFalsely : Prop := aclDeadRow.holds Try.pinned (OpenSpec.ofChange aclDeadWrong)

/- THE SECOND FORM. 'bulk': how many values and letters a reading holds, each counted each time it is reached (what is shared counts as often as it is met; a slice's spare places count too). A statement '..UptoSaid' is the law's where the arguments, and the package variables that the reading takes, are together of bulk at most 1048576: NARROWER than '..Said'. Prove '..Said' where nothing that the law and all that it calls make is longer than what came in: it says more and counts as full. Else prove '..UptoSaid'. A law counts once. -/
mutual
def uptoBulk {H : Type} : DataW H → Nat
  | .lit (.string bytes) => bytes.length + 1
  | .lit _ => 1
  | .nil => 1
  | .ptr d => uptoBulk d + 1
  | .slice elems spare => uptoBulkAll elems + uptoBulkAll spare + 1
  | .agg parts => uptoBulkAll parts + 1
  | .iface _ d => uptoBulk d + 1
  | .map entries => uptoBulkEntries entries + 1
  | .held _ => 1
def uptoBulkAll {H : Type} : List (DataW H) → Nat
  | [] => 0
  | d :: r => uptoBulk d + uptoBulkAll r
def uptoBulkEntries {H : Type} : List (Lit × DataW H) → Nat
  | [] => 0
  | x :: r => uptoBulkEntry x + uptoBulkEntries r
def uptoBulkEntry {H : Type} : Lit × DataW H → Nat
  | (.string bytes, d) => bytes.length + uptoBulk d + 1
  | (_, d) => uptoBulk d + 1
 end
def uptoSmall : (H : Type) → List (DataW H) → Bool := fun _ ds => decide (uptoBulkAll ds ≤ 1048576)
def OpenSpec.upto (s : _root_.Go.ChangeSpec) : _root_.Go.OpenSpec := { _root_.Go.OpenSpec.ofChange s with cond := some uptoSmall }

/-- 'wirelaw.Names', WHERE WHAT IT READS IS OF BULK AT MOST 1048576: true; the input reads as it did. -/
def namesUptoRow : OpenClaim := { program := "ytoanimmlpfchjaa", sum := "8bd94abdfe0c348c00dd3c7f64dfb1556ca5c764496461602a524cce0fc6022f", func := "wireward/wirelaw.Names", spec := "names", plainKeys := false, apart := false, narrowed := true }
def NamesUptoSaid : Prop := namesUptoRow.holds Try.pinned (OpenSpec.upto namesSpec)

/-- 'wirekeep.MatchMeets', WHERE WHAT IT READS IS OF BULK AT MOST 1048576: true; the input reads as it did. -/
def matchMeetsUptoRow : OpenClaim := { program := "ytoanimmlpfchjaa", sum := "8bd94abdfe0c348c00dd3c7f64dfb1556ca5c764496461602a524cce0fc6022f", func := "wireward/wirekeep.MatchMeets", spec := "matchMeets", unfollowed := true, recurses := true, plainKeys := false, apart := false, narrowed := true }
def MatchMeetsUptoSaid : Prop := matchMeetsUptoRow.holds Try.pinned (OpenSpec.upto matchMeetsSpec)

/-- 'wirekeep.AclFirst', WHERE WHAT IT READS IS OF BULK AT MOST 1048576: true; the input reads as it did. -/
def aclFirstUptoRow : OpenClaim := { program := "ytoanimmlpfchjaa", sum := "8bd94abdfe0c348c00dd3c7f64dfb1556ca5c764496461602a524cce0fc6022f", func := "wireward/wirekeep.AclFirst", spec := "aclFirst", unfollowed := true, recurses := true, plainKeys := false, apart := false, narrowed := true }
def AclFirstUptoSaid : Prop := aclFirstUptoRow.holds Try.pinned (OpenSpec.upto aclFirstSpec)

/-- 'wirekeep.FibLongest', WHERE WHAT IT READS IS OF BULK AT MOST 1048576: true; the input reads as it did. -/
def fibLongestUptoRow : OpenClaim := { program := "ytoanimmlpfchjaa", sum := "8bd94abdfe0c348c00dd3c7f64dfb1556ca5c764496461602a524cce0fc6022f", func := "wireward/wirekeep.FibLongest", spec := "fibLongest", plainKeys := false, apart := false, narrowed := true }
def FibLongestUptoSaid : Prop := fibLongestUptoRow.holds Try.pinned (OpenSpec.upto fibLongestSpec)

/-- 'wirekeep.NetPeers', WHERE WHAT IT READS IS OF BULK AT MOST 1048576: true; the input reads as it did. -/
def netPeersUptoRow : OpenClaim := { program := "ytoanimmlpfchjaa", sum := "8bd94abdfe0c348c00dd3c7f64dfb1556ca5c764496461602a524cce0fc6022f", func := "wireward/wirekeep.NetPeers", spec := "netPeers", unfollowed := true, recurses := true, plainKeys := false, apart := false, narrowed := true }
def NetPeersUptoSaid : Prop := netPeersUptoRow.holds Try.pinned (OpenSpec.upto netPeersSpec)

/-- 'wirelaw.MatchBuilds', WHERE WHAT IT READS IS OF BULK AT MOST 1048576: true; the input reads as it did. -/
def matchBuildsUptoRow : OpenClaim := { program := "ytoanimmlpfchjaa", sum := "8bd94abdfe0c348c00dd3c7f64dfb1556ca5c764496461602a524cce0fc6022f", func := "wireward/wirelaw.MatchBuilds", spec := "matchBuilds", unfollowed := true, recurses := true, plainKeys := false, apart := false, narrowed := true }
def MatchBuildsUptoSaid : Prop := matchBuildsUptoRow.holds Try.pinned (OpenSpec.upto matchBuildsSpec)

/-- 'wirekeep.BddLaws', WHERE WHAT IT READS IS OF BULK AT MOST 1048576: true; the input reads as it did. -/
def bddLawsUptoRow : OpenClaim := { program := "ytoanimmlpfchjaa", sum := "8bd94abdfe0c348c00dd3c7f64dfb1556ca5c764496461602a524cce0fc6022f", func := "wireward/wirekeep.BddLaws", spec := "bddLaws", recurses := true, plainKeys := false, apart := false, narrowed := true }
def BddLawsUptoSaid : Prop := bddLawsUptoRow.holds Try.pinned (OpenSpec.upto bddLawsSpec)

/-- 'wirelaw.FibSays', WHERE WHAT IT READS IS OF BULK AT MOST 1048576: true; the input reads as it did. -/
def fibSaysUptoRow : OpenClaim := { program := "ytoanimmlpfchjaa", sum := "8bd94abdfe0c348c00dd3c7f64dfb1556ca5c764496461602a524cce0fc6022f", func := "wireward/wirelaw.FibSays", spec := "fibSays", unfollowed := true, recurses := true, plainKeys := false, apart := false, narrowed := true }
def FibSaysUptoSaid : Prop := fibSaysUptoRow.holds Try.pinned (OpenSpec.upto fibSaysSpec)

/-- 'wirelaw.BddPlays', WHERE WHAT IT READS IS OF BULK AT MOST 1048576: true; the input reads as it did. -/
def bddPlaysUptoRow : OpenClaim := { program := "ytoanimmlpfchjaa", sum := "8bd94abdfe0c348c00dd3c7f64dfb1556ca5c764496461602a524cce0fc6022f", func := "wireward/wirelaw.BddPlays", spec := "bddPlays", unfollowed := true, recurses := true, plainKeys := false, apart := false, narrowed := true }
def BddPlaysUptoSaid : Prop := bddPlaysUptoRow.holds Try.pinned (OpenSpec.upto bddPlaysSpec)

/-- 'wirelaw.RingWalks', WHERE WHAT IT READS IS OF BULK AT MOST 1048576: true; the input reads as it did. -/
def ringWalksUptoRow : OpenClaim := { program := "ytoanimmlpfchjaa", sum := "8bd94abdfe0c348c00dd3c7f64dfb1556ca5c764496461602a524cce0fc6022f", func := "wireward/wirelaw.RingWalks", spec := "ringWalks", unfollowed := true, recurses := true, plainKeys := false, apart := false, narrowed := true }
def RingWalksUptoSaid : Prop := ringWalksUptoRow.holds Try.pinned (OpenSpec.upto ringWalksSpec)

/-- 'wirelaw.DifferRules', WHERE WHAT IT READS IS OF BULK AT MOST 1048576: true; the input reads as it did. -/
def differRulesUptoRow : OpenClaim := { program := "ytoanimmlpfchjaa", sum := "8bd94abdfe0c348c00dd3c7f64dfb1556ca5c764496461602a524cce0fc6022f", func := "wireward/wirelaw.DifferRules", spec := "differRules", unfollowed := true, recurses := true, plainKeys := false, apart := false, narrowed := true }
def DifferRulesUptoSaid : Prop := differRulesUptoRow.holds Try.pinned (OpenSpec.upto differRulesSpec)

/-- 'wirekeep.AclDead', WHERE WHAT IT READS IS OF BULK AT MOST 1048576: true; the input reads as it did. -/
def aclDeadUptoRow : OpenClaim := { program := "ytoanimmlpfchjaa", sum := "8bd94abdfe0c348c00dd3c7f64dfb1556ca5c764496461602a524cce0fc6022f", func := "wireward/wirekeep.AclDead", spec := "aclDead", unfollowed := true, recurses := true, plainKeys := false, apart := false, narrowed := true }
def AclDeadUptoSaid : Prop := aclDeadUptoRow.holds Try.pinned (OpenSpec.upto aclDeadSpec)

end Rows
end Go.Proofs.Ytoanimmlpfchjaa
