/-
  No cell of these rows narrows 'for every input' (looked for: loops, veiled, ifaces, maps, wideKeys, modest, calm, conditions, laid).
  DERIVED. THE GIVEN ROWS OF THIS SEAT. 10 by the template 'for every input the law returns true; each argument reads behind the call as it read before'; 0 by the template 'total and deterministic' (their statements: YtidikopjfpioaaaTotals.lean).
  GIVEN WITH THE SEED: the statements are not yours to turn. If you find one false, say at which input.
  Laid BY PROGRAM, IN A SANDBOX (cutbox-rows.mjs): the forced cells as the released guide's own fill.sh prints them over the translation fc7dcd7d1eacc85b… (all of the seat's roots in one cut). By AI agents, Wed Nov 11 2026. No macro, syntax, notation, axiom, sorry.
-/
import Derived.Test.YtidikopjfpioaaaChecked
import GoSem.Claim
import GoSem.ClaimJoined
import GoSem.ClaimMapViews
import Derived.JoinedTies
import Derived.KernelRfl
namespace Go.Proofs.Ytidikopjfpioaaa
/- THE CELL 'sum', in the pinned program and in every row, IS THE sha256 OF THE DUMP (.gsa) THAT YtidikopjfpioaaaProg.lean LOADS. Nothing in Lean hashes anything: it is a label: what it is worth is what the hold of that sum in a sandbox is worth. -/
noncomputable def Try.pinned : Pinned := { name := "ytidikopjfpioaaa", sum := "fc7dcd7d1eacc85bcc1e14c2a873816f229783c92bdad46e41eee5264698cb38", checked := Try.checked }
namespace Rows
def none {H : Type} : Left H := { results := [], args := [] }

/-- 'wirekeep.NetPeers': WHATEVER THE INPUT: true; the input reads as it did. -/
def netPeersSpec : ChangeSpec := { name := "netPeers", fn := fun _ => fun
  | [d] => { results := [.lit (.bool true)], args := [d] }
  | _ => none }
def netPeersRow : OpenClaim := { program := "ytidikopjfpioaaa", sum := "fc7dcd7d1eacc85bcc1e14c2a873816f229783c92bdad46e41eee5264698cb38", func := "wireward/wirekeep.NetPeers", spec := "netPeers", unfollowed := true, recurses := true, plainKeys := false, apart := false }
def NetPeersSaid : Prop := netPeersRow.holds Try.pinned (OpenSpec.ofChange netPeersSpec)

/-- ITS FALSE NEIGHBOUR: 'it returns false'. Refute it at one input. -/
def netPeersWrong : ChangeSpec := { name := "netPeers", fn := fun _ => fun
  | [d] => { results := [.lit (.bool false)], args := [d] }
  | _ => none }
def NetPeersWrongFalsely : Prop := netPeersRow.holds Try.pinned (OpenSpec.ofChange netPeersWrong)

/-- 'wirelaw.RingWalks': WHATEVER THE INPUT: true; the input reads as it did. -/
def ringWalksSpec : ChangeSpec := { name := "ringWalks", fn := fun _ => fun
  | [d1, d2, d3] => { results := [.lit (.bool true)], args := [d1, d2, d3] }
  | _ => none }
def ringWalksRow : OpenClaim := { program := "ytidikopjfpioaaa", sum := "fc7dcd7d1eacc85bcc1e14c2a873816f229783c92bdad46e41eee5264698cb38", func := "wireward/wirelaw.RingWalks", spec := "ringWalks", unfollowed := true, recurses := true, plainKeys := false, apart := false }
def RingWalksSaid : Prop := ringWalksRow.holds Try.pinned (OpenSpec.ofChange ringWalksSpec)

/-- ITS FALSE NEIGHBOUR: 'it returns false'. Refute it at one input. -/
def ringWalksWrong : ChangeSpec := { name := "ringWalks", fn := fun _ => fun
  | [d1, d2, d3] => { results := [.lit (.bool false)], args := [d1, d2, d3] }
  | _ => none }
def RingWalksWrongFalsely : Prop := ringWalksRow.holds Try.pinned (OpenSpec.ofChange ringWalksWrong)

/-- 'wirelaw.BddPlays': WHATEVER THE INPUT: true; the input reads as it did. -/
def bddPlaysSpec : ChangeSpec := { name := "bddPlays", fn := fun _ => fun
  | [d1, d2, d3] => { results := [.lit (.bool true)], args := [d1, d2, d3] }
  | _ => none }
def bddPlaysRow : OpenClaim := { program := "ytidikopjfpioaaa", sum := "fc7dcd7d1eacc85bcc1e14c2a873816f229783c92bdad46e41eee5264698cb38", func := "wireward/wirelaw.BddPlays", spec := "bddPlays", unfollowed := true, recurses := true, plainKeys := false, apart := false }
def BddPlaysSaid : Prop := bddPlaysRow.holds Try.pinned (OpenSpec.ofChange bddPlaysSpec)

/-- ITS FALSE NEIGHBOUR: 'it returns false'. Refute it at one input. -/
def bddPlaysWrong : ChangeSpec := { name := "bddPlays", fn := fun _ => fun
  | [d1, d2, d3] => { results := [.lit (.bool false)], args := [d1, d2, d3] }
  | _ => none }
def BddPlaysWrongFalsely : Prop := bddPlaysRow.holds Try.pinned (OpenSpec.ofChange bddPlaysWrong)

/-- 'wirelaw.AclSays': WHATEVER THE INPUT: true; the input reads as it did. -/
def aclSaysSpec : ChangeSpec := { name := "aclSays", fn := fun _ => fun
  | [d1, d2] => { results := [.lit (.bool true)], args := [d1, d2] }
  | _ => none }
def aclSaysRow : OpenClaim := { program := "ytidikopjfpioaaa", sum := "fc7dcd7d1eacc85bcc1e14c2a873816f229783c92bdad46e41eee5264698cb38", func := "wireward/wirelaw.AclSays", spec := "aclSays", unfollowed := true, recurses := true, plainKeys := false, apart := false }
def AclSaysSaid : Prop := aclSaysRow.holds Try.pinned (OpenSpec.ofChange aclSaysSpec)

/-- ITS FALSE NEIGHBOUR: 'it returns false'. Refute it at one input. -/
def aclSaysWrong : ChangeSpec := { name := "aclSays", fn := fun _ => fun
  | [d1, d2] => { results := [.lit (.bool false)], args := [d1, d2] }
  | _ => none }
def AclSaysWrongFalsely : Prop := aclSaysRow.holds Try.pinned (OpenSpec.ofChange aclSaysWrong)

/-- 'wirekeep.StepNat': WHATEVER THE INPUT: true; the input reads as it did. -/
def stepNatSpec : ChangeSpec := { name := "stepNat", fn := fun _ => fun
  | [d1, d2, d3, d4] => { results := [.lit (.bool true)], args := [d1, d2, d3, d4] }
  | _ => none }
def stepNatRow : OpenClaim := { program := "ytidikopjfpioaaa", sum := "fc7dcd7d1eacc85bcc1e14c2a873816f229783c92bdad46e41eee5264698cb38", func := "wireward/wirekeep.StepNat", spec := "stepNat", unfollowed := true, recurses := true, plainKeys := false, apart := false }
def StepNatSaid : Prop := stepNatRow.holds Try.pinned (OpenSpec.ofChange stepNatSpec)

/-- ITS FALSE NEIGHBOUR: 'it returns false'. Refute it at one input. -/
def stepNatWrong : ChangeSpec := { name := "stepNat", fn := fun _ => fun
  | [d1, d2, d3, d4] => { results := [.lit (.bool false)], args := [d1, d2, d3, d4] }
  | _ => none }
def StepNatWrongFalsely : Prop := stepNatRow.holds Try.pinned (OpenSpec.ofChange stepNatWrong)

/-- 'wirekeep.StepPins': WHATEVER THE INPUT: true; the input reads as it did. -/
def stepPinsSpec : ChangeSpec := { name := "stepPins", fn := fun _ => fun
  | [d1, d2, d3, d4, d5] => { results := [.lit (.bool true)], args := [d1, d2, d3, d4, d5] }
  | _ => none }
def stepPinsRow : OpenClaim := { program := "ytidikopjfpioaaa", sum := "fc7dcd7d1eacc85bcc1e14c2a873816f229783c92bdad46e41eee5264698cb38", func := "wireward/wirekeep.StepPins", spec := "stepPins", unfollowed := true, recurses := true, plainKeys := false, apart := false }
def StepPinsSaid : Prop := stepPinsRow.holds Try.pinned (OpenSpec.ofChange stepPinsSpec)

/-- ITS FALSE NEIGHBOUR: 'it returns false'. Refute it at one input. -/
def stepPinsWrong : ChangeSpec := { name := "stepPins", fn := fun _ => fun
  | [d1, d2, d3, d4, d5] => { results := [.lit (.bool false)], args := [d1, d2, d3, d4, d5] }
  | _ => none }
def StepPinsWrongFalsely : Prop := stepPinsRow.holds Try.pinned (OpenSpec.ofChange stepPinsWrong)

/-- 'wirekeep.StepFire': WHATEVER THE INPUT: true; the input reads as it did. -/
def stepFireSpec : ChangeSpec := { name := "stepFire", fn := fun _ => fun
  | [d1, d2, d3] => { results := [.lit (.bool true)], args := [d1, d2, d3] }
  | _ => none }
def stepFireRow : OpenClaim := { program := "ytidikopjfpioaaa", sum := "fc7dcd7d1eacc85bcc1e14c2a873816f229783c92bdad46e41eee5264698cb38", func := "wireward/wirekeep.StepFire", spec := "stepFire", unfollowed := true, recurses := true, plainKeys := false, apart := false }
def StepFireSaid : Prop := stepFireRow.holds Try.pinned (OpenSpec.ofChange stepFireSpec)

/-- ITS FALSE NEIGHBOUR: 'it returns false'. Refute it at one input. -/
def stepFireWrong : ChangeSpec := { name := "stepFire", fn := fun _ => fun
  | [d1, d2, d3] => { results := [.lit (.bool false)], args := [d1, d2, d3] }
  | _ => none }
def StepFireWrongFalsely : Prop := stepFireRow.holds Try.pinned (OpenSpec.ofChange stepFireWrong)

/-- 'wirelaw.StepPlays': WHATEVER THE INPUT: true; the input reads as it did. -/
def stepPlaysSpec : ChangeSpec := { name := "stepPlays", fn := fun _ => fun
  | [d1, d2] => { results := [.lit (.bool true)], args := [d1, d2] }
  | _ => none }
def stepPlaysRow : OpenClaim := { program := "ytidikopjfpioaaa", sum := "fc7dcd7d1eacc85bcc1e14c2a873816f229783c92bdad46e41eee5264698cb38", func := "wireward/wirelaw.StepPlays", spec := "stepPlays", inPlace := ["maps.clone"], unfollowed := true, recurses := true, plainKeys := false, apart := false }
def StepPlaysSaid : Prop := stepPlaysRow.holds Try.pinned (OpenSpec.ofChange stepPlaysSpec)

/-- ITS FALSE NEIGHBOUR: 'it returns false'. Refute it at one input. -/
def stepPlaysWrong : ChangeSpec := { name := "stepPlays", fn := fun _ => fun
  | [d1, d2] => { results := [.lit (.bool false)], args := [d1, d2] }
  | _ => none }
def StepPlaysWrongFalsely : Prop := stepPlaysRow.holds Try.pinned (OpenSpec.ofChange stepPlaysWrong)

/-- 'wirekeep.StepCopies': WHATEVER THE INPUT: true; the input reads as it did. -/
def stepCopiesSpec : ChangeSpec := { name := "stepCopies", fn := fun _ => fun
  | [d1, d2, d3] => { results := [.lit (.bool true)], args := [d1, d2, d3] }
  | _ => none }
def stepCopiesRow : OpenClaim := { program := "ytidikopjfpioaaa", sum := "fc7dcd7d1eacc85bcc1e14c2a873816f229783c92bdad46e41eee5264698cb38", func := "wireward/wirekeep.StepCopies", spec := "stepCopies", inPlace := ["maps.clone"], unfollowed := true, recurses := true, plainKeys := false, apart := false }
def StepCopiesSaid : Prop := stepCopiesRow.holds Try.pinned (OpenSpec.ofChange stepCopiesSpec)

/-- ITS FALSE NEIGHBOUR: 'it returns false'. Refute it at one input. -/
def stepCopiesWrong : ChangeSpec := { name := "stepCopies", fn := fun _ => fun
  | [d1, d2, d3] => { results := [.lit (.bool false)], args := [d1, d2, d3] }
  | _ => none }
def StepCopiesWrongFalsely : Prop := stepCopiesRow.holds Try.pinned (OpenSpec.ofChange stepCopiesWrong)

/-- 'wirekeep.RingEnds': WHATEVER THE INPUT: true; the input reads as it did. -/
def ringEndsSpec : ChangeSpec := { name := "ringEnds", fn := fun _ => fun
  | [d1, d2, d3] => { results := [.lit (.bool true)], args := [d1, d2, d3] }
  | _ => none }
def ringEndsRow : OpenClaim := { program := "ytidikopjfpioaaa", sum := "fc7dcd7d1eacc85bcc1e14c2a873816f229783c92bdad46e41eee5264698cb38", func := "wireward/wirekeep.RingEnds", spec := "ringEnds", unfollowed := true, recurses := true, plainKeys := false, apart := false }
def RingEndsSaid : Prop := ringEndsRow.holds Try.pinned (OpenSpec.ofChange ringEndsSpec)

/-- ITS FALSE NEIGHBOUR: 'it returns false'. Refute it at one input. -/
def ringEndsWrong : ChangeSpec := { name := "ringEnds", fn := fun _ => fun
  | [d1, d2, d3] => { results := [.lit (.bool false)], args := [d1, d2, d3] }
  | _ => none }
def RingEndsWrongFalsely : Prop := ringEndsRow.holds Try.pinned (OpenSpec.ofChange ringEndsWrong)

/- THE SECOND FORM. 'bulk': how many values and letters a reading holds, each counted each time it is reached (what is shared counts as often as it is met; a slice's spare places count too). A statement '..UptoSaid' is the law's where the arguments, and the package variables that the reading takes, are together of bulk at most 1048576: NARROWER than '..Said'. Prove '..Said' where nothing that the law and all that it calls make is longer than what came in: it says more and counts as full. Else prove '..UptoSaid'. A law counts once. -/
mutual
def uptoBulk {H : Type} : DataW H → Nat
  | .lit (.string bytes) => bytes.length + 1
  | .lit _ => 1
  | .nil => 1
  | .ptr d => uptoBulk d + 1
  | .slice elems spare => uptoBulkAll elems + uptoBulkAll spare + 1
  | .agg parts => uptoBulkAll parts + 1
  | .iface _ d => uptoBulk d + 1
  | .map entries => uptoBulkEntries entries + 1
  | .held _ => 1
def uptoBulkAll {H : Type} : List (DataW H) → Nat
  | [] => 0
  | d :: r => uptoBulk d + uptoBulkAll r
def uptoBulkEntries {H : Type} : List (Lit × DataW H) → Nat
  | [] => 0
  | x :: r => uptoBulkEntry x + uptoBulkEntries r
def uptoBulkEntry {H : Type} : Lit × DataW H → Nat
  | (.string bytes, d) => bytes.length + uptoBulk d + 1
  | (_, d) => uptoBulk d + 1
 end
def uptoSmall : (H : Type) → List (DataW H) → Bool := fun _ ds => decide (uptoBulkAll ds ≤ 1048576)
def OpenSpec.upto (s : _root_.Go.ChangeSpec) : _root_.Go.OpenSpec := { _root_.Go.OpenSpec.ofChange s with cond := some uptoSmall }

/-- 'wirekeep.NetPeers', WHERE WHAT IT READS IS OF BULK AT MOST 1048576: true; the input reads as it did. -/
def netPeersUptoRow : OpenClaim := { program := "ytidikopjfpioaaa", sum := "fc7dcd7d1eacc85bcc1e14c2a873816f229783c92bdad46e41eee5264698cb38", func := "wireward/wirekeep.NetPeers", spec := "netPeers", unfollowed := true, recurses := true, plainKeys := false, apart := false, narrowed := true }
def NetPeersUptoSaid : Prop := netPeersUptoRow.holds Try.pinned (OpenSpec.upto netPeersSpec)

/-- 'wirelaw.RingWalks', WHERE WHAT IT READS IS OF BULK AT MOST 1048576: true; the input reads as it did. -/
def ringWalksUptoRow : OpenClaim := { program := "ytidikopjfpioaaa", sum := "fc7dcd7d1eacc85bcc1e14c2a873816f229783c92bdad46e41eee5264698cb38", func := "wireward/wirelaw.RingWalks", spec := "ringWalks", unfollowed := true, recurses := true, plainKeys := false, apart := false, narrowed := true }
def RingWalksUptoSaid : Prop := ringWalksUptoRow.holds Try.pinned (OpenSpec.upto ringWalksSpec)

/-- 'wirelaw.BddPlays', WHERE WHAT IT READS IS OF BULK AT MOST 1048576: true; the input reads as it did. -/
def bddPlaysUptoRow : OpenClaim := { program := "ytidikopjfpioaaa", sum := "fc7dcd7d1eacc85bcc1e14c2a873816f229783c92bdad46e41eee5264698cb38", func := "wireward/wirelaw.BddPlays", spec := "bddPlays", unfollowed := true, recurses := true, plainKeys := false, apart := false, narrowed := true }
def BddPlaysUptoSaid : Prop := bddPlaysUptoRow.holds Try.pinned (OpenSpec.upto bddPlaysSpec)

/-- 'wirelaw.AclSays', WHERE WHAT IT READS IS OF BULK AT MOST 1048576: true; the input reads as it did. -/
def aclSaysUptoRow : OpenClaim := { program := "ytidikopjfpioaaa", sum := "fc7dcd7d1eacc85bcc1e14c2a873816f229783c92bdad46e41eee5264698cb38", func := "wireward/wirelaw.AclSays", spec := "aclSays", unfollowed := true, recurses := true, plainKeys := false, apart := false, narrowed := true }
def AclSaysUptoSaid : Prop := aclSaysUptoRow.holds Try.pinned (OpenSpec.upto aclSaysSpec)

/-- 'wirekeep.StepNat', WHERE WHAT IT READS IS OF BULK AT MOST 1048576: true; the input reads as it did. -/
def stepNatUptoRow : OpenClaim := { program := "ytidikopjfpioaaa", sum := "fc7dcd7d1eacc85bcc1e14c2a873816f229783c92bdad46e41eee5264698cb38", func := "wireward/wirekeep.StepNat", spec := "stepNat", unfollowed := true, recurses := true, plainKeys := false, apart := false, narrowed := true }
def StepNatUptoSaid : Prop := stepNatUptoRow.holds Try.pinned (OpenSpec.upto stepNatSpec)

/-- 'wirekeep.StepPins', WHERE WHAT IT READS IS OF BULK AT MOST 1048576: true; the input reads as it did. -/
def stepPinsUptoRow : OpenClaim := { program := "ytidikopjfpioaaa", sum := "fc7dcd7d1eacc85bcc1e14c2a873816f229783c92bdad46e41eee5264698cb38", func := "wireward/wirekeep.StepPins", spec := "stepPins", unfollowed := true, recurses := true, plainKeys := false, apart := false, narrowed := true }
def StepPinsUptoSaid : Prop := stepPinsUptoRow.holds Try.pinned (OpenSpec.upto stepPinsSpec)

/-- 'wirekeep.StepFire', WHERE WHAT IT READS IS OF BULK AT MOST 1048576: true; the input reads as it did. -/
def stepFireUptoRow : OpenClaim := { program := "ytidikopjfpioaaa", sum := "fc7dcd7d1eacc85bcc1e14c2a873816f229783c92bdad46e41eee5264698cb38", func := "wireward/wirekeep.StepFire", spec := "stepFire", unfollowed := true, recurses := true, plainKeys := false, apart := false, narrowed := true }
def StepFireUptoSaid : Prop := stepFireUptoRow.holds Try.pinned (OpenSpec.upto stepFireSpec)

/-- 'wirelaw.StepPlays', WHERE WHAT IT READS IS OF BULK AT MOST 1048576: true; the input reads as it did. -/
def stepPlaysUptoRow : OpenClaim := { program := "ytidikopjfpioaaa", sum := "fc7dcd7d1eacc85bcc1e14c2a873816f229783c92bdad46e41eee5264698cb38", func := "wireward/wirelaw.StepPlays", spec := "stepPlays", inPlace := ["maps.clone"], unfollowed := true, recurses := true, plainKeys := false, apart := false, narrowed := true }
def StepPlaysUptoSaid : Prop := stepPlaysUptoRow.holds Try.pinned (OpenSpec.upto stepPlaysSpec)

/-- 'wirekeep.StepCopies', WHERE WHAT IT READS IS OF BULK AT MOST 1048576: true; the input reads as it did. -/
def stepCopiesUptoRow : OpenClaim := { program := "ytidikopjfpioaaa", sum := "fc7dcd7d1eacc85bcc1e14c2a873816f229783c92bdad46e41eee5264698cb38", func := "wireward/wirekeep.StepCopies", spec := "stepCopies", inPlace := ["maps.clone"], unfollowed := true, recurses := true, plainKeys := false, apart := false, narrowed := true }
def StepCopiesUptoSaid : Prop := stepCopiesUptoRow.holds Try.pinned (OpenSpec.upto stepCopiesSpec)

/-- 'wirekeep.RingEnds', WHERE WHAT IT READS IS OF BULK AT MOST 1048576: true; the input reads as it did. -/
def ringEndsUptoRow : OpenClaim := { program := "ytidikopjfpioaaa", sum := "fc7dcd7d1eacc85bcc1e14c2a873816f229783c92bdad46e41eee5264698cb38", func := "wireward/wirekeep.RingEnds", spec := "ringEnds", unfollowed := true, recurses := true, plainKeys := false, apart := false, narrowed := true }
def RingEndsUptoSaid : Prop := ringEndsUptoRow.holds Try.pinned (OpenSpec.upto ringEndsSpec)

end Rows
end Go.Proofs.Ytidikopjfpioaaa
