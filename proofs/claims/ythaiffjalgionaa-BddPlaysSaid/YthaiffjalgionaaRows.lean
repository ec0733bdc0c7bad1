/-
  No cell of these rows narrows 'for every input' (looked for: loops, veiled, ifaces, maps, wideKeys, modest, calm, conditions, laid).
  DERIVED. THE GIVEN ROWS OF THIS SEAT. 8 by the template 'for every input the law returns true; each argument reads behind the call as it read before'; 0 by the template 'total and deterministic' (their statements: YthaiffjalgionaaTotals.lean).
  GIVEN WITH THE SEED: the statements are not yours to turn. If you find one false, say at which input.
  Laid BY PROGRAM, IN A SANDBOX (cutbox-rows.mjs): the forced cells as the released guide's own fill.sh prints them over the translation fb6406a7f14bdfe0… (all of the seat's roots in one cut). By AI agents, Wed Nov 11 2026. No macro, syntax, notation, axiom, sorry.
-/
import Derived.Test.YthaiffjalgionaaChecked
import GoSem.Claim
import GoSem.ClaimJoined
import GoSem.ClaimMapViews
import Derived.JoinedTies
import Derived.KernelRfl
namespace Go.Proofs.Ythaiffjalgionaa
/- THE CELL 'sum', in the pinned program and in every row, IS THE sha256 OF THE DUMP (.gsa) THAT YthaiffjalgionaaProg.lean LOADS. Nothing in Lean hashes anything: it is a label: what it is worth is what the hold of that sum in a sandbox is worth. -/
noncomputable def Try.pinned : Pinned := { name := "ythaiffjalgionaa", sum := "fb6406a7f14bdfe024490f1488c07932b993cdb4921712e7f350ce3685fc5255", checked := Try.checked }
namespace Rows
def none {H : Type} : Left H := { results := [], args := [] }

/-- 'wirelaw.StepPlays': WHATEVER THE INPUT: true; the input reads as it did. -/
def stepPlaysSpec : ChangeSpec := { name := "stepPlays", fn := fun _ => fun
  | [d1, d2] => { results := [.lit (.bool true)], args := [d1, d2] }
  | _ => none }
def stepPlaysRow : OpenClaim := { program := "ythaiffjalgionaa", sum := "fb6406a7f14bdfe024490f1488c07932b993cdb4921712e7f350ce3685fc5255", func := "wireward/wirelaw.StepPlays", spec := "stepPlays", inPlace := ["maps.clone"], unfollowed := true, recurses := true, plainKeys := false, apart := false }
def StepPlaysSaid : Prop := stepPlaysRow.holds Try.pinned (OpenSpec.ofChange stepPlaysSpec)

/-- ITS FALSE NEIGHBOUR: 'it returns false'. Refute it at one input. -/
def stepPlaysWrong : ChangeSpec := { name := "stepPlays", fn := fun _ => fun
  | [d1, d2] => { results := [.lit (.bool false)], args := [d1, d2] }
  | _ => none }
def StepPlaysWrongFalsely : Prop := stepPlaysRow.holds Try.pinned (OpenSpec.ofChange stepPlaysWrong)

/-- 'wirelaw.BddPlays': WHATEVER THE INPUT: true; the input reads as it did. -/
def bddPlaysSpec : ChangeSpec := { name := "bddPlays", fn := fun _ => fun
  | [d1, d2, d3] => { results := [.lit (.bool true)], args := [d1, d2, d3] }
  | _ => none }
def bddPlaysRow : OpenClaim := { program := "ythaiffjalgionaa", sum := "fb6406a7f14bdfe024490f1488c07932b993cdb4921712e7f350ce3685fc5255", func := "wireward/wirelaw.BddPlays", spec := "bddPlays", unfollowed := true, recurses := true, plainKeys := false, apart := false }
def BddPlaysSaid : Prop := bddPlaysRow.holds Try.pinned (OpenSpec.ofChange bddPlaysSpec)

/-- ITS FALSE NEIGHBOUR: 'it returns false'. Refute it at one input. -/
def bddPlaysWrong : ChangeSpec := { name := "bddPlays", fn := fun _ => fun
  | [d1, d2, d3] => { results := [.lit (.bool false)], args := [d1, d2, d3] }
  | _ => none }
def BddPlaysWrongFalsely : Prop := bddPlaysRow.holds Try.pinned (OpenSpec.ofChange bddPlaysWrong)

/-- 'wirekeep.WorldGrows': WHATEVER THE INPUT: true; the input reads as it did. -/
def worldGrowsSpec : ChangeSpec := { name := "worldGrows", fn := fun _ => fun
  | [d1, d2] => { results := [.lit (.bool true)], args := [d1, d2] }
  | _ => none }
def worldGrowsRow : OpenClaim := { program := "ythaiffjalgionaa", sum := "fb6406a7f14bdfe024490f1488c07932b993cdb4921712e7f350ce3685fc5255", func := "wireward/wirekeep.WorldGrows", spec := "worldGrows", unfollowed := true, recurses := true, plainKeys := false, apart := false }
def WorldGrowsSaid : Prop := worldGrowsRow.holds Try.pinned (OpenSpec.ofChange worldGrowsSpec)

/-- ITS FALSE NEIGHBOUR: 'it returns false'. Refute it at one input. -/
def worldGrowsWrong : ChangeSpec := { name := "worldGrows", fn := fun _ => fun
  | [d1, d2] => { results := [.lit (.bool false)], args := [d1, d2] }
  | _ => none }
def WorldGrowsWrongFalsely : Prop := worldGrowsRow.holds Try.pinned (OpenSpec.ofChange worldGrowsWrong)

/-- 'wirelaw.WorldPlays': WHATEVER THE INPUT: true; the input reads as it did. -/
def worldPlaysSpec : ChangeSpec := { name := "worldPlays", fn := fun _ => fun
  | [d1, d2] => { results := [.lit (.bool true)], args := [d1, d2] }
  | _ => none }
def worldPlaysRow : OpenClaim := { program := "ythaiffjalgionaa", sum := "fb6406a7f14bdfe024490f1488c07932b993cdb4921712e7f350ce3685fc5255", func := "wireward/wirelaw.WorldPlays", spec := "worldPlays", unfollowed := true, recurses := true, plainKeys := false, apart := false }
def WorldPlaysSaid : Prop := worldPlaysRow.holds Try.pinned (OpenSpec.ofChange worldPlaysSpec)

/-- ITS FALSE NEIGHBOUR: 'it returns false'. Refute it at one input. -/
def worldPlaysWrong : ChangeSpec := { name := "worldPlays", fn := fun _ => fun
  | [d1, d2] => { results := [.lit (.bool false)], args := [d1, d2] }
  | _ => none }
def WorldPlaysWrongFalsely : Prop := worldPlaysRow.holds Try.pinned (OpenSpec.ofChange worldPlaysWrong)

/-- 'wirekeep.NetPeers': WHATEVER THE INPUT: true; the input reads as it did. -/
def netPeersSpec : ChangeSpec := { name := "netPeers", fn := fun _ => fun
  | [d] => { results := [.lit (.bool true)], args := [d] }
  | _ => none }
def netPeersRow : OpenClaim := { program := "ythaiffjalgionaa", sum := "fb6406a7f14bdfe024490f1488c07932b993cdb4921712e7f350ce3685fc5255", func := "wireward/wirekeep.NetPeers", spec := "netPeers", unfollowed := true, recurses := true, plainKeys := false, apart := false }
def NetPeersSaid : Prop := netPeersRow.holds Try.pinned (OpenSpec.ofChange netPeersSpec)

/-- ITS FALSE NEIGHBOUR: 'it returns false'. Refute it at one input. -/
def netPeersWrong : ChangeSpec := { name := "netPeers", fn := fun _ => fun
  | [d] => { results := [.lit (.bool false)], args := [d] }
  | _ => none }
def NetPeersWrongFalsely : Prop := netPeersRow.holds Try.pinned (OpenSpec.ofChange netPeersWrong)

/-- 'wirelaw.RingWalks': WHATEVER THE INPUT: true; the input reads as it did. -/
def ringWalksSpec : ChangeSpec := { name := "ringWalks", fn := fun _ => fun
  | [d1, d2, d3] => { results := [.lit (.bool true)], args := [d1, d2, d3] }
  | _ => none }
def ringWalksRow : OpenClaim := { program := "ythaiffjalgionaa", sum := "fb6406a7f14bdfe024490f1488c07932b993cdb4921712e7f350ce3685fc5255", func := "wireward/wirelaw.RingWalks", spec := "ringWalks", unfollowed := true, recurses := true, plainKeys := false, apart := false }
def RingWalksSaid : Prop := ringWalksRow.holds Try.pinned (OpenSpec.ofChange ringWalksSpec)

/-- ITS FALSE NEIGHBOUR: 'it returns false'. Refute it at one input. -/
def ringWalksWrong : ChangeSpec := { name := "ringWalks", fn := fun _ => fun
  | [d1, d2, d3] => { results := [.lit (.bool false)], args := [d1, d2, d3] }
  | _ => none }
def RingWalksWrongFalsely : Prop := ringWalksRow.holds Try.pinned (OpenSpec.ofChange ringWalksWrong)

/-- 'wirelaw.AclSays': WHATEVER THE INPUT: true; the input reads as it did. -/
def aclSaysSpec : ChangeSpec := { name := "aclSays", fn := fun _ => fun
  | [d1, d2] => { results := [.lit (.bool true)], args := [d1, d2] }
  | _ => none }
def aclSaysRow : OpenClaim := { program := "ythaiffjalgionaa", sum := "fb6406a7f14bdfe024490f1488c07932b993cdb4921712e7f350ce3685fc5255", func := "wireward/wirelaw.AclSays", spec := "aclSays", unfollowed := true, recurses := true, plainKeys := false, apart := false }
def AclSaysSaid : Prop := aclSaysRow.holds Try.pinned (OpenSpec.ofChange aclSaysSpec)

/-- ITS FALSE NEIGHBOUR: 'it returns false'. Refute it at one input. -/
def aclSaysWrong : ChangeSpec := { name := "aclSays", fn := fun _ => fun
  | [d1, d2] => { results := [.lit (.bool false)], args := [d1, d2] }
  | _ => none }
def AclSaysWrongFalsely : Prop := aclSaysRow.holds Try.pinned (OpenSpec.ofChange aclSaysWrong)

/-- 'wirelaw.RingAll': WHATEVER THE INPUT: true; the input reads as it did. -/
def ringAllSpec : ChangeSpec := { name := "ringAll", fn := fun _ => fun
  | [d1, d2] => { results := [.lit (.bool true)], args := [d1, d2] }
  | _ => none }
def ringAllRow : OpenClaim := { program := "ythaiffjalgionaa", sum := "fb6406a7f14bdfe024490f1488c07932b993cdb4921712e7f350ce3685fc5255", func := "wireward/wirelaw.RingAll", spec := "ringAll", unfollowed := true, recurses := true, plainKeys := false, apart := false }
def RingAllSaid : Prop := ringAllRow.holds Try.pinned (OpenSpec.ofChange ringAllSpec)

/-- ITS FALSE NEIGHBOUR: 'it returns false'. Refute it at one input. -/
def ringAllWrong : ChangeSpec := { name := "ringAll", fn := fun _ => fun
  | [d1, d2] => { results := [.lit (.bool false)], args := [d1, d2] }
  | _ => none }
def RingAllWrongFalsely : Prop := ringAllRow.holds Try.pinned (OpenSpec.ofChange ringAllWrong)

/- THE SECOND FORM. 'bulk': how many values and letters a reading holds, each counted each time it is reached (what is shared counts as often as it is met; a slice's spare places count too). A statement '..UptoSaid' is the law's where the arguments, and the package variables that the reading takes, are together of bulk at most 1048576: NARROWER than '..Said'. Prove '..Said' where nothing that the law and all that it calls make is longer than what came in: it says more and counts as full. Else prove '..UptoSaid'. A law counts once. -/
mutual
def uptoBulk {H : Type} : DataW H → Nat
  | .lit (.string bytes) => bytes.length + 1
  | .lit _ => 1
  | .nil => 1
  | .ptr d => uptoBulk d + 1
  | .slice elems spare => uptoBulkAll elems + uptoBulkAll spare + 1
  | .agg parts => uptoBulkAll parts + 1
  | .iface _ d => uptoBulk d + 1
  | .map entries => uptoBulkEntries entries + 1
  | .held _ => 1
def uptoBulkAll {H : Type} : List (DataW H) → Nat
  | [] => 0
  | d :: r => uptoBulk d + uptoBulkAll r
def uptoBulkEntries {H : Type} : List (Lit × DataW H) → Nat
  | [] => 0
  | x :: r => uptoBulkEntry x + uptoBulkEntries r
def uptoBulkEntry {H : Type} : Lit × DataW H → Nat
  | (.string bytes, d) => bytes.length + uptoBulk d + 1
  | (_, d) => uptoBulk d + 1
 end
def uptoSmall : (H : Type) → List (DataW H) → Bool := fun _ ds => decide (uptoBulkAll ds ≤ 1048576)
def OpenSpec.upto (s : _root_.Go.ChangeSpec) : _root_.Go.OpenSpec := { _root_.Go.OpenSpec.ofChange s with cond := some uptoSmall }

/-- 'wirelaw.StepPlays', WHERE WHAT IT READS IS OF BULK AT MOST 1048576: true; the input reads as it did. -/
def stepPlaysUptoRow : OpenClaim := { program := "ythaiffjalgionaa", sum := "fb6406a7f14bdfe024490f1488c07932b993cdb4921712e7f350ce3685fc5255", func := "wireward/wirelaw.StepPlays", spec := "stepPlays", inPlace := ["maps.clone"], unfollowed := true, recurses := true, plainKeys := false, apart := false, narrowed := true }
def StepPlaysUptoSaid : Prop := stepPlaysUptoRow.holds Try.pinned (OpenSpec.upto stepPlaysSpec)

/-- 'wirelaw.BddPlays', WHERE WHAT IT READS IS OF BULK AT MOST 1048576: true; the input reads as it did. -/
def bddPlaysUptoRow : OpenClaim := { program := "ythaiffjalgionaa", sum := "fb6406a7f14bdfe024490f1488c07932b993cdb4921712e7f350ce3685fc5255", func := "wireward/wirelaw.BddPlays", spec := "bddPlays", unfollowed := true, recurses := true, plainKeys := false, apart := false, narrowed := true }
def BddPlaysUptoSaid : Prop := bddPlaysUptoRow.holds Try.pinned (OpenSpec.upto bddPlaysSpec)

/-- 'wirekeep.WorldGrows', WHERE WHAT IT READS IS OF BULK AT MOST 1048576: true; the input reads as it did. -/
def worldGrowsUptoRow : OpenClaim := { program := "ythaiffjalgionaa", sum := "fb6406a7f14bdfe024490f1488c07932b993cdb4921712e7f350ce3685fc5255", func := "wireward/wirekeep.WorldGrows", spec := "worldGrows", unfollowed := true, recurses := true, plainKeys := false, apart := false, narrowed := true }
def WorldGrowsUptoSaid : Prop := worldGrowsUptoRow.holds Try.pinned (OpenSpec.upto worldGrowsSpec)

/-- 'wirelaw.WorldPlays', WHERE WHAT IT READS IS OF BULK AT MOST 1048576: true; the input reads as it did. -/
def worldPlaysUptoRow : OpenClaim := { program := "ythaiffjalgionaa", sum := "fb6406a7f14bdfe024490f1488c07932b993cdb4921712e7f350ce3685fc5255", func := "wireward/wirelaw.WorldPlays", spec := "worldPlays", unfollowed := true, recurses := true, plainKeys := false, apart := false, narrowed := true }
def WorldPlaysUptoSaid : Prop := worldPlaysUptoRow.holds Try.pinned (OpenSpec.upto worldPlaysSpec)

/-- 'wirekeep.NetPeers', WHERE WHAT IT READS IS OF BULK AT MOST 1048576: true; the input reads as it did. -/
def netPeersUptoRow : OpenClaim := { program := "ythaiffjalgionaa", sum := "fb6406a7f14bdfe024490f1488c07932b993cdb4921712e7f350ce3685fc5255", func := "wireward/wirekeep.NetPeers", spec := "netPeers", unfollowed := true, recurses := true, plainKeys := false, apart := false, narrowed := true }
def NetPeersUptoSaid : Prop := netPeersUptoRow.holds Try.pinned (OpenSpec.upto netPeersSpec)

/-- 'wirelaw.RingWalks', WHERE WHAT IT READS IS OF BULK AT MOST 1048576: true; the input reads as it did. -/
def ringWalksUptoRow : OpenClaim := { program := "ythaiffjalgionaa", sum := "fb6406a7f14bdfe024490f1488c07932b993cdb4921712e7f350ce3685fc5255", func := "wireward/wirelaw.RingWalks", spec := "ringWalks", unfollowed := true, recurses := true, plainKeys := false, apart := false, narrowed := true }
def RingWalksUptoSaid : Prop := ringWalksUptoRow.holds Try.pinned (OpenSpec.upto ringWalksSpec)

/-- 'wirelaw.AclSays', WHERE WHAT IT READS IS OF BULK AT MOST 1048576: true; the input reads as it did. -/
def aclSaysUptoRow : OpenClaim := { program := "ythaiffjalgionaa", sum := "fb6406a7f14bdfe024490f1488c07932b993cdb4921712e7f350ce3685fc5255", func := "wireward/wirelaw.AclSays", spec := "aclSays", unfollowed := true, recurses := true, plainKeys := false, apart := false, narrowed := true }
def AclSaysUptoSaid : Prop := aclSaysUptoRow.holds Try.pinned (OpenSpec.upto aclSaysSpec)

/-- 'wirelaw.RingAll', WHERE WHAT IT READS IS OF BULK AT MOST 1048576: true; the input reads as it did. -/
def ringAllUptoRow : OpenClaim := { program := "ythaiffjalgionaa", sum := "fb6406a7f14bdfe024490f1488c07932b993cdb4921712e7f350ce3685fc5255", func := "wireward/wirelaw.RingAll", spec := "ringAll", unfollowed := true, recurses := true, plainKeys := false, apart := false, narrowed := true }
def RingAllUptoSaid : Prop := ringAllUptoRow.holds Try.pinned (OpenSpec.upto ringAllSpec)

end Rows
end Go.Proofs.Ythaiffjalgionaa
