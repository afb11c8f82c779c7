/-
  No cell of these rows narrows 'for every input' (looked for: loops, veiled, ifaces, maps, wideKeys, modest, calm, conditions, laid).
  DERIVED. THE GIVEN ROWS OF THIS SEAT. 8 by the template 'for every input the law returns true; each argument reads behind the call as it read before'; 0 by the template 'total and deterministic' (their statements: YtfjcfjfgamajkaaTotals.lean).
  GIVEN WITH THE SEED: the statements are not yours to turn. If you find one false, say at which input.
  Laid BY PROGRAM, IN A SANDBOX (cutbox-rows.mjs): the forced cells as the released guide's own fill.sh prints them over the translation 50e2a3cf7e803841… (all of the seat's roots in one cut). By AI agents, Wed Nov 11 2026. No macro, syntax, notation, axiom, sorry.
-/
import Derived.Test.YtfjcfjfgamajkaaChecked
import GoSem.Claim
import GoSem.ClaimJoined
import GoSem.ClaimMapViews
import Derived.JoinedTies
import Derived.KernelRfl
namespace Go.Proofs.Ytfjcfjfgamajkaa
/- THE CELL 'sum', in the pinned program and in every row, IS THE sha256 OF THE DUMP (.gsa) THAT YtfjcfjfgamajkaaProg.lean LOADS. Nothing in Lean hashes anything: it is a label: what it is worth is what the hold of that sum in a sandbox is worth. -/
noncomputable def Try.pinned : Pinned := { name := "ytfjcfjfgamajkaa", sum := "50e2a3cf7e803841a3df3db3b9f1b5c490be90928bb21643b65296c52959d325", checked := Try.checked }
namespace Rows
def none {H : Type} : Left H := { results := [], args := [] }

/-- 'casematelaw19.MirrorWhere': WHATEVER THE INPUT: true; the input reads as it did. -/
def mirrorWhereSpec : ChangeSpec := { name := "mirrorWhere", fn := fun _ => fun
  | [d1, d2] => { results := [.lit (.bool true)], args := [d1, d2] }
  | _ => none }
def mirrorWhereRow : OpenClaim := { program := "ytfjcfjfgamajkaa", sum := "50e2a3cf7e803841a3df3db3b9f1b5c490be90928bb21643b65296c52959d325", func := "casemate/casematelaw19.MirrorWhere", spec := "mirrorWhere", unfollowed := true, recurses := true, apart := false }
def MirrorWhereSaid : Prop := mirrorWhereRow.holds Try.pinned (OpenSpec.ofChange mirrorWhereSpec)

/-- ITS FALSE NEIGHBOUR: 'it returns false'. Refute it at one input. -/
def mirrorWhereWrong : ChangeSpec := { name := "mirrorWhere", fn := fun _ => fun
  | [d1, d2] => { results := [.lit (.bool false)], args := [d1, d2] }
  | _ => none }
def MirrorWhereWrongFalsely : Prop := mirrorWhereRow.holds Try.pinned (OpenSpec.ofChange mirrorWhereWrong)

/-- 'casematelaw13.BusSees': WHATEVER THE INPUT: true; the input reads as it did. -/
def busSeesSpec : ChangeSpec := { name := "busSees", fn := fun _ => fun
  | [d1, d2] => { results := [.lit (.bool true)], args := [d1, d2] }
  | _ => none }
def busSeesRow : OpenClaim := { program := "ytfjcfjfgamajkaa", sum := "50e2a3cf7e803841a3df3db3b9f1b5c490be90928bb21643b65296c52959d325", func := "casemate/casematelaw13.BusSees", spec := "busSees", inPlace := ["maps.clone"], unfollowed := true, recurses := true, apart := false }
def BusSeesSaid : Prop := busSeesRow.holds Try.pinned (OpenSpec.ofChange busSeesSpec)

/-- ITS FALSE NEIGHBOUR: 'it returns false'. Refute it at one input. -/
def busSeesWrong : ChangeSpec := { name := "busSees", fn := fun _ => fun
  | [d1, d2] => { results := [.lit (.bool false)], args := [d1, d2] }
  | _ => none }
def BusSeesWrongFalsely : Prop := busSeesRow.holds Try.pinned (OpenSpec.ofChange busSeesWrong)

/-- 'casematelaw13.BusQuiet': WHATEVER THE INPUT: true; the input reads as it did. -/
def busQuietSpec : ChangeSpec := { name := "busQuiet", fn := fun _ => fun
  | [d1, d2] => { results := [.lit (.bool true)], args := [d1, d2] }
  | _ => none }
def busQuietRow : OpenClaim := { program := "ytfjcfjfgamajkaa", sum := "50e2a3cf7e803841a3df3db3b9f1b5c490be90928bb21643b65296c52959d325", func := "casemate/casematelaw13.BusQuiet", spec := "busQuiet", inPlace := ["maps.clone"], unfollowed := true, recurses := true, apart := false }
def BusQuietSaid : Prop := busQuietRow.holds Try.pinned (OpenSpec.ofChange busQuietSpec)

/-- ITS FALSE NEIGHBOUR: 'it returns false'. Refute it at one input. -/
def busQuietWrong : ChangeSpec := { name := "busQuiet", fn := fun _ => fun
  | [d1, d2] => { results := [.lit (.bool false)], args := [d1, d2] }
  | _ => none }
def BusQuietWrongFalsely : Prop := busQuietRow.holds Try.pinned (OpenSpec.ofChange busQuietWrong)

/-- 'casematelaw13.BusReplay': WHATEVER THE INPUT: true; the input reads as it did. -/
def busReplaySpec : ChangeSpec := { name := "busReplay", fn := fun _ => fun
  | [d] => { results := [.lit (.bool true)], args := [d] }
  | _ => none }
def busReplayRow : OpenClaim := { program := "ytfjcfjfgamajkaa", sum := "50e2a3cf7e803841a3df3db3b9f1b5c490be90928bb21643b65296c52959d325", func := "casemate/casematelaw13.BusReplay", spec := "busReplay", inPlace := ["maps.clone"], unfollowed := true, recurses := true, apart := false }
def BusReplaySaid : Prop := busReplayRow.holds Try.pinned (OpenSpec.ofChange busReplaySpec)

/-- ITS FALSE NEIGHBOUR: 'it returns false'. Refute it at one input. -/
def busReplayWrong : ChangeSpec := { name := "busReplay", fn := fun _ => fun
  | [d] => { results := [.lit (.bool false)], args := [d] }
  | _ => none }
def BusReplayWrongFalsely : Prop := busReplayRow.holds Try.pinned (OpenSpec.ofChange busReplayWrong)

/-- 'casematelaw13.BusOff': WHATEVER THE INPUT: true; the input reads as it did. -/
def busOffSpec : ChangeSpec := { name := "busOff", fn := fun _ => fun
  | [d1, d2, d3] => { results := [.lit (.bool true)], args := [d1, d2, d3] }
  | _ => none }
def busOffRow : OpenClaim := { program := "ytfjcfjfgamajkaa", sum := "50e2a3cf7e803841a3df3db3b9f1b5c490be90928bb21643b65296c52959d325", func := "casemate/casematelaw13.BusOff", spec := "busOff", inPlace := ["maps.clone"], unfollowed := true, recurses := true, apart := false }
def BusOffSaid : Prop := busOffRow.holds Try.pinned (OpenSpec.ofChange busOffSpec)

/-- ITS FALSE NEIGHBOUR: 'it returns false'. Refute it at one input. -/
def busOffWrong : ChangeSpec := { name := "busOff", fn := fun _ => fun
  | [d1, d2, d3] => { results := [.lit (.bool false)], args := [d1, d2, d3] }
  | _ => none }
def BusOffWrongFalsely : Prop := busOffRow.holds Try.pinned (OpenSpec.ofChange busOffWrong)

/-- 'casematelaw13.BusKnown': WHATEVER THE INPUT: true; the input reads as it did. -/
def busKnownSpec : ChangeSpec := { name := "busKnown", fn := fun _ => fun
  | [] => { results := [.lit (.bool true)], args := [] }
  | _ => none }
def busKnownRow : OpenClaim := { program := "ytfjcfjfgamajkaa", sum := "50e2a3cf7e803841a3df3db3b9f1b5c490be90928bb21643b65296c52959d325", func := "casemate/casematelaw13.BusKnown", spec := "busKnown", inPlace := ["maps.clone"], unfollowed := true, recurses := true, apart := false }
def BusKnownSaid : Prop := busKnownRow.holds Try.pinned (OpenSpec.ofChange busKnownSpec)

/-- ITS FALSE NEIGHBOUR: 'it returns false'. Refute it at one input. -/
def busKnownWrong : ChangeSpec := { name := "busKnown", fn := fun _ => fun
  | [] => { results := [.lit (.bool false)], args := [] }
  | _ => none }
def BusKnownWrongFalsely : Prop := busKnownRow.holds Try.pinned (OpenSpec.ofChange busKnownWrong)

/-- 'casematelaw13.BusPlays': WHATEVER THE INPUT: true; the input reads as it did. -/
def busPlaysSpec : ChangeSpec := { name := "busPlays", fn := fun _ => fun
  | [d1, d2] => { results := [.lit (.bool true)], args := [d1, d2] }
  | _ => none }
def busPlaysRow : OpenClaim := { program := "ytfjcfjfgamajkaa", sum := "50e2a3cf7e803841a3df3db3b9f1b5c490be90928bb21643b65296c52959d325", func := "casemate/casematelaw13.BusPlays", spec := "busPlays", inPlace := ["maps.clone"], unfollowed := true, recurses := true, apart := false }
def BusPlaysSaid : Prop := busPlaysRow.holds Try.pinned (OpenSpec.ofChange busPlaysSpec)

/-- ITS FALSE NEIGHBOUR: 'it returns false'. Refute it at one input. -/
def busPlaysWrong : ChangeSpec := { name := "busPlays", fn := fun _ => fun
  | [d1, d2] => { results := [.lit (.bool false)], args := [d1, d2] }
  | _ => none }
def BusPlaysWrongFalsely : Prop := busPlaysRow.holds Try.pinned (OpenSpec.ofChange busPlaysWrong)

/-- 'casematelaw19.MirrorAll': WHATEVER THE INPUT: true; the input reads as it did. -/
def mirrorAllSpec : ChangeSpec := { name := "mirrorAll", fn := fun _ => fun
  | [d1, d2, d3] => { results := [.lit (.bool true)], args := [d1, d2, d3] }
  | _ => none }
def mirrorAllRow : OpenClaim := { program := "ytfjcfjfgamajkaa", sum := "50e2a3cf7e803841a3df3db3b9f1b5c490be90928bb21643b65296c52959d325", func := "casemate/casematelaw19.MirrorAll", spec := "mirrorAll", inPlace := ["maps.clone"], unfollowed := true, recurses := true, apart := false }
def MirrorAllSaid : Prop := mirrorAllRow.holds Try.pinned (OpenSpec.ofChange mirrorAllSpec)

/-- ITS FALSE NEIGHBOUR: 'it returns false'. Refute it at one input. -/
def mirrorAllWrong : ChangeSpec := { name := "mirrorAll", fn := fun _ => fun
  | [d1, d2, d3] => { results := [.lit (.bool false)], args := [d1, d2, d3] }
  | _ => none }
def MirrorAllWrongFalsely : Prop := mirrorAllRow.holds Try.pinned (OpenSpec.ofChange mirrorAllWrong)

/- THE SECOND FORM. 'bulk': how many values and letters a reading holds, each counted each time it is reached (what is shared counts as often as it is met; a slice's spare places count too). A statement '..UptoSaid' is the law's where the arguments, and the package variables that the reading takes, are together of bulk at most 1048576: NARROWER than '..Said'. Prove '..Said' where nothing that the law and all that it calls make is longer than what came in: it says more and counts as full. Else prove '..UptoSaid'. A law counts once. -/
mutual
def uptoBulk {H : Type} : DataW H → Nat
  | .lit (.string bytes) => bytes.length + 1
  | .lit _ => 1
  | .nil => 1
  | .ptr d => uptoBulk d + 1
  | .slice elems spare => uptoBulkAll elems + uptoBulkAll spare + 1
  | .agg parts => uptoBulkAll parts + 1
  | .iface _ d => uptoBulk d + 1
  | .map entries => uptoBulkEntries entries + 1
  | .held _ => 1
def uptoBulkAll {H : Type} : List (DataW H) → Nat
  | [] => 0
  | d :: r => uptoBulk d + uptoBulkAll r
def uptoBulkEntries {H : Type} : List (Lit × DataW H) → Nat
  | [] => 0
  | x :: r => uptoBulkEntry x + uptoBulkEntries r
def uptoBulkEntry {H : Type} : Lit × DataW H → Nat
  | (.string bytes, d) => bytes.length + uptoBulk d + 1
  | (_, d) => uptoBulk d + 1
 end
def uptoSmall : (H : Type) → List (DataW H) → Bool := fun _ ds => decide (uptoBulkAll ds ≤ 1048576)
def OpenSpec.upto (s : _root_.Go.ChangeSpec) : _root_.Go.OpenSpec := { _root_.Go.OpenSpec.ofChange s with cond := some uptoSmall }

/-- 'casematelaw19.MirrorWhere', WHERE WHAT IT READS IS OF BULK AT MOST 1048576: true; the input reads as it did. -/
def mirrorWhereUptoRow : OpenClaim := { program := "ytfjcfjfgamajkaa", sum := "50e2a3cf7e803841a3df3db3b9f1b5c490be90928bb21643b65296c52959d325", func := "casemate/casematelaw19.MirrorWhere", spec := "mirrorWhere", unfollowed := true, recurses := true, apart := false, narrowed := true }
def MirrorWhereUptoSaid : Prop := mirrorWhereUptoRow.holds Try.pinned (OpenSpec.upto mirrorWhereSpec)

/-- 'casematelaw13.BusSees', WHERE WHAT IT READS IS OF BULK AT MOST 1048576: true; the input reads as it did. -/
def busSeesUptoRow : OpenClaim := { program := "ytfjcfjfgamajkaa", sum := "50e2a3cf7e803841a3df3db3b9f1b5c490be90928bb21643b65296c52959d325", func := "casemate/casematelaw13.BusSees", spec := "busSees", inPlace := ["maps.clone"], unfollowed := true, recurses := true, apart := false, narrowed := true }
def BusSeesUptoSaid : Prop := busSeesUptoRow.holds Try.pinned (OpenSpec.upto busSeesSpec)

/-- 'casematelaw13.BusQuiet', WHERE WHAT IT READS IS OF BULK AT MOST 1048576: true; the input reads as it did. -/
def busQuietUptoRow : OpenClaim := { program := "ytfjcfjfgamajkaa", sum := "50e2a3cf7e803841a3df3db3b9f1b5c490be90928bb21643b65296c52959d325", func := "casemate/casematelaw13.BusQuiet", spec := "busQuiet", inPlace := ["maps.clone"], unfollowed := true, recurses := true, apart := false, narrowed := true }
def BusQuietUptoSaid : Prop := busQuietUptoRow.holds Try.pinned (OpenSpec.upto busQuietSpec)

/-- 'casematelaw13.BusReplay', WHERE WHAT IT READS IS OF BULK AT MOST 1048576: true; the input reads as it did. -/
def busReplayUptoRow : OpenClaim := { program := "ytfjcfjfgamajkaa", sum := "50e2a3cf7e803841a3df3db3b9f1b5c490be90928bb21643b65296c52959d325", func := "casemate/casematelaw13.BusReplay", spec := "busReplay", inPlace := ["maps.clone"], unfollowed := true, recurses := true, apart := false, narrowed := true }
def BusReplayUptoSaid : Prop := busReplayUptoRow.holds Try.pinned (OpenSpec.upto busReplaySpec)

/-- 'casematelaw13.BusOff', WHERE WHAT IT READS IS OF BULK AT MOST 1048576: true; the input reads as it did. -/
def busOffUptoRow : OpenClaim := { program := "ytfjcfjfgamajkaa", sum := "50e2a3cf7e803841a3df3db3b9f1b5c490be90928bb21643b65296c52959d325", func := "casemate/casematelaw13.BusOff", spec := "busOff", inPlace := ["maps.clone"], unfollowed := true, recurses := true, apart := false, narrowed := true }
def BusOffUptoSaid : Prop := busOffUptoRow.holds Try.pinned (OpenSpec.upto busOffSpec)

/-- 'casematelaw13.BusKnown', WHERE WHAT IT READS IS OF BULK AT MOST 1048576: true; the input reads as it did. -/
def busKnownUptoRow : OpenClaim := { program := "ytfjcfjfgamajkaa", sum := "50e2a3cf7e803841a3df3db3b9f1b5c490be90928bb21643b65296c52959d325", func := "casemate/casematelaw13.BusKnown", spec := "busKnown", inPlace := ["maps.clone"], unfollowed := true, recurses := true, apart := false, narrowed := true }
def BusKnownUptoSaid : Prop := busKnownUptoRow.holds Try.pinned (OpenSpec.upto busKnownSpec)

/-- 'casematelaw13.BusPlays', WHERE WHAT IT READS IS OF BULK AT MOST 1048576: true; the input reads as it did. -/
def busPlaysUptoRow : OpenClaim := { program := "ytfjcfjfgamajkaa", sum := "50e2a3cf7e803841a3df3db3b9f1b5c490be90928bb21643b65296c52959d325", func := "casemate/casematelaw13.BusPlays", spec := "busPlays", inPlace := ["maps.clone"], unfollowed := true, recurses := true, apart := false, narrowed := true }
def BusPlaysUptoSaid : Prop := busPlaysUptoRow.holds Try.pinned (OpenSpec.upto busPlaysSpec)

/-- 'casematelaw19.MirrorAll', WHERE WHAT IT READS IS OF BULK AT MOST 1048576: true; the input reads as it did. -/
def mirrorAllUptoRow : OpenClaim := { program := "ytfjcfjfgamajkaa", sum := "50e2a3cf7e803841a3df3db3b9f1b5c490be90928bb21643b65296c52959d325", func := "casemate/casematelaw19.MirrorAll", spec := "mirrorAll", inPlace := ["maps.clone"], unfollowed := true, recurses := true, apart := false, narrowed := true }
def MirrorAllUptoSaid : Prop := mirrorAllUptoRow.holds Try.pinned (OpenSpec.upto mirrorAllSpec)

end Rows
end Go.Proofs.Ytfjcfjfgamajkaa
