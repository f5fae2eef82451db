/-
  No cell of these rows narrows 'for every input' (looked for: loops, veiled, ifaces, maps, wideKeys, modest, calm, conditions, laid).
  DERIVED. THE GIVEN ROWS OF THIS SEAT. 12 by the template 'for every input the law returns true; each argument reads behind the call as it read before'; 0 by the template 'total and deterministic' (their statements: YtmgcjihcbdgihaaTotals.lean).
  GIVEN WITH THE SEED: the statements are not yours to turn. If you find one false, say at which input.
  Laid BY PROGRAM, IN A SANDBOX (cutbox-rows.mjs): the forced cells as the released guide's own fill.sh prints them over the translation d9e898f0b6d54e63… (all of the seat's roots in one cut). By AI agents, Wed Nov 11 2026. No macro, syntax, notation, axiom, sorry.
-/
import Derived.Test.YtmgcjihcbdgihaaChecked
import GoSem.Claim
import GoSem.ClaimJoined
import GoSem.ClaimMapViews
import Derived.JoinedTies
import Derived.KernelRfl
namespace Go.Proofs.Ytmgcjihcbdgihaa
/- THE CELL 'sum', in the pinned program and in every row, IS THE sha256 OF THE DUMP (.gsa) THAT YtmgcjihcbdgihaaProg.lean LOADS. Nothing in Lean hashes anything: it is a label: what it is worth is what the hold of that sum in a sandbox is worth. -/
noncomputable def Try.pinned : Pinned := { name := "ytmgcjihcbdgihaa", sum := "d9e898f0b6d54e63c3d17fc983442b6cb2c83ae7837cb0f2507b6c6d4f26e128", checked := Try.checked }
namespace Rows
def none {H : Type} : Left H := { results := [], args := [] }

/-- 'valiselaw18.ColourGrey': WHATEVER THE INPUT: true; the input reads as it did. -/
def colourGreySpec : ChangeSpec := { name := "colourGrey", fn := fun _ => fun
  | [d] => { results := [.lit (.bool true)], args := [d] }
  | _ => none }
def colourGreyRow : OpenClaim := { program := "ytmgcjihcbdgihaa", sum := "d9e898f0b6d54e63c3d17fc983442b6cb2c83ae7837cb0f2507b6c6d4f26e128", func := "valise/valiselaw18.ColourGrey", spec := "colourGrey", apart := false }
def ColourGreySaid : Prop := colourGreyRow.holds Try.pinned (OpenSpec.ofChange colourGreySpec)

/-- ITS FALSE NEIGHBOUR: 'it returns false'. Refute it at one input. -/
def colourGreyWrong : ChangeSpec := { name := "colourGrey", fn := fun _ => fun
  | [d] => { results := [.lit (.bool false)], args := [d] }
  | _ => none }
def ColourGreyWrongFalsely : Prop := colourGreyRow.holds Try.pinned (OpenSpec.ofChange colourGreyWrong)

/-- 'valiselaw18.ColourColumns': WHATEVER THE INPUT: true; the input reads as it did. -/
def colourColumnsSpec : ChangeSpec := { name := "colourColumns", fn := fun _ => fun
  | [d1, d2] => { results := [.lit (.bool true)], args := [d1, d2] }
  | _ => none }
def colourColumnsRow : OpenClaim := { program := "ytmgcjihcbdgihaa", sum := "d9e898f0b6d54e63c3d17fc983442b6cb2c83ae7837cb0f2507b6c6d4f26e128", func := "valise/valiselaw18.ColourColumns", spec := "colourColumns", apart := false }
def ColourColumnsSaid : Prop := colourColumnsRow.holds Try.pinned (OpenSpec.ofChange colourColumnsSpec)

/-- ITS FALSE NEIGHBOUR: 'it returns false'. Refute it at one input. -/
def colourColumnsWrong : ChangeSpec := { name := "colourColumns", fn := fun _ => fun
  | [d1, d2] => { results := [.lit (.bool false)], args := [d1, d2] }
  | _ => none }
def ColourColumnsWrongFalsely : Prop := colourColumnsRow.holds Try.pinned (OpenSpec.ofChange colourColumnsWrong)

/-- 'valiselaw18.ColourTurns': WHATEVER THE INPUT: true; the input reads as it did. -/
def colourTurnsSpec : ChangeSpec := { name := "colourTurns", fn := fun _ => fun
  | [d1, d2] => { results := [.lit (.bool true)], args := [d1, d2] }
  | _ => none }
def colourTurnsRow : OpenClaim := { program := "ytmgcjihcbdgihaa", sum := "d9e898f0b6d54e63c3d17fc983442b6cb2c83ae7837cb0f2507b6c6d4f26e128", func := "valise/valiselaw18.ColourTurns", spec := "colourTurns", unfollowed := true, recurses := true, apart := false }
def ColourTurnsSaid : Prop := colourTurnsRow.holds Try.pinned (OpenSpec.ofChange colourTurnsSpec)

/-- ITS FALSE NEIGHBOUR: 'it returns false'. Refute it at one input. -/
def colourTurnsWrong : ChangeSpec := { name := "colourTurns", fn := fun _ => fun
  | [d1, d2] => { results := [.lit (.bool false)], args := [d1, d2] }
  | _ => none }
def ColourTurnsWrongFalsely : Prop := colourTurnsRow.holds Try.pinned (OpenSpec.ofChange colourTurnsWrong)

/-- 'valiselaw18.ColourBack': WHATEVER THE INPUT: true; the input reads as it did. -/
def colourBackSpec : ChangeSpec := { name := "colourBack", fn := fun _ => fun
  | [d1, d2] => { results := [.lit (.bool true)], args := [d1, d2] }
  | _ => none }
def colourBackRow : OpenClaim := { program := "ytmgcjihcbdgihaa", sum := "d9e898f0b6d54e63c3d17fc983442b6cb2c83ae7837cb0f2507b6c6d4f26e128", func := "valise/valiselaw18.ColourBack", spec := "colourBack", apart := false }
def ColourBackSaid : Prop := colourBackRow.holds Try.pinned (OpenSpec.ofChange colourBackSpec)

/-- ITS FALSE NEIGHBOUR: 'it returns false'. Refute it at one input. -/
def colourBackWrong : ChangeSpec := { name := "colourBack", fn := fun _ => fun
  | [d1, d2] => { results := [.lit (.bool false)], args := [d1, d2] }
  | _ => none }
def ColourBackWrongFalsely : Prop := colourBackRow.holds Try.pinned (OpenSpec.ofChange colourBackWrong)

/-- 'valiselaw14.TracksSplit': WHATEVER THE INPUT: true; the input reads as it did. -/
def tracksSplitSpec : ChangeSpec := { name := "tracksSplit", fn := fun _ => fun
  | [d1, d2, d3] => { results := [.lit (.bool true)], args := [d1, d2, d3] }
  | _ => none }
def tracksSplitRow : OpenClaim := { program := "ytmgcjihcbdgihaa", sum := "d9e898f0b6d54e63c3d17fc983442b6cb2c83ae7837cb0f2507b6c6d4f26e128", func := "valise/valiselaw14.TracksSplit", spec := "tracksSplit", unfollowed := true, recurses := true, apart := false }
def TracksSplitSaid : Prop := tracksSplitRow.holds Try.pinned (OpenSpec.ofChange tracksSplitSpec)

/-- ITS FALSE NEIGHBOUR: 'it returns false'. Refute it at one input. -/
def tracksSplitWrong : ChangeSpec := { name := "tracksSplit", fn := fun _ => fun
  | [d1, d2, d3] => { results := [.lit (.bool false)], args := [d1, d2, d3] }
  | _ => none }
def TracksSplitWrongFalsely : Prop := tracksSplitRow.holds Try.pinned (OpenSpec.ofChange tracksSplitWrong)

/-- 'valiselaw14.TracksMid': WHATEVER THE INPUT: true; the input reads as it did. -/
def tracksMidSpec : ChangeSpec := { name := "tracksMid", fn := fun _ => fun
  | [d1, d2] => { results := [.lit (.bool true)], args := [d1, d2] }
  | _ => none }
def tracksMidRow : OpenClaim := { program := "ytmgcjihcbdgihaa", sum := "d9e898f0b6d54e63c3d17fc983442b6cb2c83ae7837cb0f2507b6c6d4f26e128", func := "valise/valiselaw14.TracksMid", spec := "tracksMid", unfollowed := true, recurses := true, apart := false }
def TracksMidSaid : Prop := tracksMidRow.holds Try.pinned (OpenSpec.ofChange tracksMidSpec)

/-- ITS FALSE NEIGHBOUR: 'it returns false'. Refute it at one input. -/
def tracksMidWrong : ChangeSpec := { name := "tracksMid", fn := fun _ => fun
  | [d1, d2] => { results := [.lit (.bool false)], args := [d1, d2] }
  | _ => none }
def TracksMidWrongFalsely : Prop := tracksMidRow.holds Try.pinned (OpenSpec.ofChange tracksMidWrong)

/-- 'valiselaw14.TracksJoin': WHATEVER THE INPUT: true; the input reads as it did. -/
def tracksJoinSpec : ChangeSpec := { name := "tracksJoin", fn := fun _ => fun
  | [d1, d2] => { results := [.lit (.bool true)], args := [d1, d2] }
  | _ => none }
def tracksJoinRow : OpenClaim := { program := "ytmgcjihcbdgihaa", sum := "d9e898f0b6d54e63c3d17fc983442b6cb2c83ae7837cb0f2507b6c6d4f26e128", func := "valise/valiselaw14.TracksJoin", spec := "tracksJoin", apart := false }
def TracksJoinSaid : Prop := tracksJoinRow.holds Try.pinned (OpenSpec.ofChange tracksJoinSpec)

/-- ITS FALSE NEIGHBOUR: 'it returns false'. Refute it at one input. -/
def tracksJoinWrong : ChangeSpec := { name := "tracksJoin", fn := fun _ => fun
  | [d1, d2] => { results := [.lit (.bool false)], args := [d1, d2] }
  | _ => none }
def TracksJoinWrongFalsely : Prop := tracksJoinRow.holds Try.pinned (OpenSpec.ofChange tracksJoinWrong)

/-- 'valiselaw14.TracksBack': WHATEVER THE INPUT: true; the input reads as it did. -/
def tracksBackSpec : ChangeSpec := { name := "tracksBack", fn := fun _ => fun
  | [d1, d2, d3, d4, d5] => { results := [.lit (.bool true)], args := [d1, d2, d3, d4, d5] }
  | _ => none }
def tracksBackRow : OpenClaim := { program := "ytmgcjihcbdgihaa", sum := "d9e898f0b6d54e63c3d17fc983442b6cb2c83ae7837cb0f2507b6c6d4f26e128", func := "valise/valiselaw14.TracksBack", spec := "tracksBack", unfollowed := true, recurses := true, apart := false }
def TracksBackSaid : Prop := tracksBackRow.holds Try.pinned (OpenSpec.ofChange tracksBackSpec)

/-- ITS FALSE NEIGHBOUR: 'it returns false'. Refute it at one input. -/
def tracksBackWrong : ChangeSpec := { name := "tracksBack", fn := fun _ => fun
  | [d1, d2, d3, d4, d5] => { results := [.lit (.bool false)], args := [d1, d2, d3, d4, d5] }
  | _ => none }
def TracksBackWrongFalsely : Prop := tracksBackRow.holds Try.pinned (OpenSpec.ofChange tracksBackWrong)

/-- 'valiselaw11.FixedFlat': WHATEVER THE INPUT: true; the input reads as it did. -/
def fixedFlatSpec : ChangeSpec := { name := "fixedFlat", fn := fun _ => fun
  | [d1, d2, d3, d4] => { results := [.lit (.bool true)], args := [d1, d2, d3, d4] }
  | _ => none }
def fixedFlatRow : OpenClaim := { program := "ytmgcjihcbdgihaa", sum := "d9e898f0b6d54e63c3d17fc983442b6cb2c83ae7837cb0f2507b6c6d4f26e128", func := "valise/valiselaw11.FixedFlat", spec := "fixedFlat", unfollowed := true, recurses := true, apart := false }
def FixedFlatSaid : Prop := fixedFlatRow.holds Try.pinned (OpenSpec.ofChange fixedFlatSpec)

/-- ITS FALSE NEIGHBOUR: 'it returns false'. Refute it at one input. -/
def fixedFlatWrong : ChangeSpec := { name := "fixedFlat", fn := fun _ => fun
  | [d1, d2, d3, d4] => { results := [.lit (.bool false)], args := [d1, d2, d3, d4] }
  | _ => none }
def FixedFlatWrongFalsely : Prop := fixedFlatRow.holds Try.pinned (OpenSpec.ofChange fixedFlatWrong)

/-- 'valiselaw11.FixedSteps': WHATEVER THE INPUT: true; the input reads as it did. -/
def fixedStepsSpec : ChangeSpec := { name := "fixedSteps", fn := fun _ => fun
  | [d] => { results := [.lit (.bool true)], args := [d] }
  | _ => none }
def fixedStepsRow : OpenClaim := { program := "ytmgcjihcbdgihaa", sum := "d9e898f0b6d54e63c3d17fc983442b6cb2c83ae7837cb0f2507b6c6d4f26e128", func := "valise/valiselaw11.FixedSteps", spec := "fixedSteps", unfollowed := true, recurses := true, apart := false }
def FixedStepsSaid : Prop := fixedStepsRow.holds Try.pinned (OpenSpec.ofChange fixedStepsSpec)

/-- ITS FALSE NEIGHBOUR: 'it returns false'. Refute it at one input. -/
def fixedStepsWrong : ChangeSpec := { name := "fixedSteps", fn := fun _ => fun
  | [d] => { results := [.lit (.bool false)], args := [d] }
  | _ => none }
def FixedStepsWrongFalsely : Prop := fixedStepsRow.holds Try.pinned (OpenSpec.ofChange fixedStepsWrong)

/-- 'valiselaw11.FixedBack': WHATEVER THE INPUT: true; the input reads as it did. -/
def fixedBackSpec : ChangeSpec := { name := "fixedBack", fn := fun _ => fun
  | [d1, d2] => { results := [.lit (.bool true)], args := [d1, d2] }
  | _ => none }
def fixedBackRow : OpenClaim := { program := "ytmgcjihcbdgihaa", sum := "d9e898f0b6d54e63c3d17fc983442b6cb2c83ae7837cb0f2507b6c6d4f26e128", func := "valise/valiselaw11.FixedBack", spec := "fixedBack", unfollowed := true, recurses := true, apart := false }
def FixedBackSaid : Prop := fixedBackRow.holds Try.pinned (OpenSpec.ofChange fixedBackSpec)

/-- ITS FALSE NEIGHBOUR: 'it returns false'. Refute it at one input. -/
def fixedBackWrong : ChangeSpec := { name := "fixedBack", fn := fun _ => fun
  | [d1, d2] => { results := [.lit (.bool false)], args := [d1, d2] }
  | _ => none }
def FixedBackWrongFalsely : Prop := fixedBackRow.holds Try.pinned (OpenSpec.ofChange fixedBackWrong)

/-- 'valiselaw11.FixedLeaves': WHATEVER THE INPUT: true; the input reads as it did. -/
def fixedLeavesSpec : ChangeSpec := { name := "fixedLeaves", fn := fun _ => fun
  | [d1, d2] => { results := [.lit (.bool true)], args := [d1, d2] }
  | _ => none }
def fixedLeavesRow : OpenClaim := { program := "ytmgcjihcbdgihaa", sum := "d9e898f0b6d54e63c3d17fc983442b6cb2c83ae7837cb0f2507b6c6d4f26e128", func := "valise/valiselaw11.FixedLeaves", spec := "fixedLeaves", unfollowed := true, recurses := true, apart := false }
def FixedLeavesSaid : Prop := fixedLeavesRow.holds Try.pinned (OpenSpec.ofChange fixedLeavesSpec)

/-- ITS FALSE NEIGHBOUR: 'it returns false'. Refute it at one input. -/
def fixedLeavesWrong : ChangeSpec := { name := "fixedLeaves", fn := fun _ => fun
  | [d1, d2] => { results := [.lit (.bool false)], args := [d1, d2] }
  | _ => none }
def FixedLeavesWrongFalsely : Prop := fixedLeavesRow.holds Try.pinned (OpenSpec.ofChange fixedLeavesWrong)

/- THE SECOND FORM. 'bulk': how many values and letters a reading holds, each counted each time it is reached (what is shared counts as often as it is met; a slice's spare places count too). A statement '..UptoSaid' is the law's where the arguments, and the package variables that the reading takes, are together of bulk at most 1048576: NARROWER than '..Said'. Prove '..Said' where nothing that the law and all that it calls make is longer than what came in: it says more and counts as full. Else prove '..UptoSaid'. A law counts once. -/
mutual
def uptoBulk {H : Type} : DataW H → Nat
  | .lit (.string bytes) => bytes.length + 1
  | .lit _ => 1
  | .nil => 1
  | .ptr d => uptoBulk d + 1
  | .slice elems spare => uptoBulkAll elems + uptoBulkAll spare + 1
  | .agg parts => uptoBulkAll parts + 1
  | .iface _ d => uptoBulk d + 1
  | .map entries => uptoBulkEntries entries + 1
  | .held _ => 1
def uptoBulkAll {H : Type} : List (DataW H) → Nat
  | [] => 0
  | d :: r => uptoBulk d + uptoBulkAll r
def uptoBulkEntries {H : Type} : List (Lit × DataW H) → Nat
  | [] => 0
  | x :: r => uptoBulkEntry x + uptoBulkEntries r
def uptoBulkEntry {H : Type} : Lit × DataW H → Nat
  | (.string bytes, d) => bytes.length + uptoBulk d + 1
  | (_, d) => uptoBulk d + 1
 end
def uptoSmall : (H : Type) → List (DataW H) → Bool := fun _ ds => decide (uptoBulkAll ds ≤ 1048576)
def OpenSpec.upto (s : _root_.Go.ChangeSpec) : _root_.Go.OpenSpec := { _root_.Go.OpenSpec.ofChange s with cond := some uptoSmall }

/-- 'valiselaw18.ColourGrey', WHERE WHAT IT READS IS OF BULK AT MOST 1048576: true; the input reads as it did. -/
def colourGreyUptoRow : OpenClaim := { program := "ytmgcjihcbdgihaa", sum := "d9e898f0b6d54e63c3d17fc983442b6cb2c83ae7837cb0f2507b6c6d4f26e128", func := "valise/valiselaw18.ColourGrey", spec := "colourGrey", apart := false, narrowed := true }
def ColourGreyUptoSaid : Prop := colourGreyUptoRow.holds Try.pinned (OpenSpec.upto colourGreySpec)

/-- 'valiselaw18.ColourColumns', WHERE WHAT IT READS IS OF BULK AT MOST 1048576: true; the input reads as it did. -/
def colourColumnsUptoRow : OpenClaim := { program := "ytmgcjihcbdgihaa", sum := "d9e898f0b6d54e63c3d17fc983442b6cb2c83ae7837cb0f2507b6c6d4f26e128", func := "valise/valiselaw18.ColourColumns", spec := "colourColumns", apart := false, narrowed := true }
def ColourColumnsUptoSaid : Prop := colourColumnsUptoRow.holds Try.pinned (OpenSpec.upto colourColumnsSpec)

/-- 'valiselaw18.ColourTurns', WHERE WHAT IT READS IS OF BULK AT MOST 1048576: true; the input reads as it did. -/
def colourTurnsUptoRow : OpenClaim := { program := "ytmgcjihcbdgihaa", sum := "d9e898f0b6d54e63c3d17fc983442b6cb2c83ae7837cb0f2507b6c6d4f26e128", func := "valise/valiselaw18.ColourTurns", spec := "colourTurns", unfollowed := true, recurses := true, apart := false, narrowed := true }
def ColourTurnsUptoSaid : Prop := colourTurnsUptoRow.holds Try.pinned (OpenSpec.upto colourTurnsSpec)

/-- 'valiselaw18.ColourBack', WHERE WHAT IT READS IS OF BULK AT MOST 1048576: true; the input reads as it did. -/
def colourBackUptoRow : OpenClaim := { program := "ytmgcjihcbdgihaa", sum := "d9e898f0b6d54e63c3d17fc983442b6cb2c83ae7837cb0f2507b6c6d4f26e128", func := "valise/valiselaw18.ColourBack", spec := "colourBack", apart := false, narrowed := true }
def ColourBackUptoSaid : Prop := colourBackUptoRow.holds Try.pinned (OpenSpec.upto colourBackSpec)

/-- 'valiselaw14.TracksSplit', WHERE WHAT IT READS IS OF BULK AT MOST 1048576: true; the input reads as it did. -/
def tracksSplitUptoRow : OpenClaim := { program := "ytmgcjihcbdgihaa", sum := "d9e898f0b6d54e63c3d17fc983442b6cb2c83ae7837cb0f2507b6c6d4f26e128", func := "valise/valiselaw14.TracksSplit", spec := "tracksSplit", unfollowed := true, recurses := true, apart := false, narrowed := true }
def TracksSplitUptoSaid : Prop := tracksSplitUptoRow.holds Try.pinned (OpenSpec.upto tracksSplitSpec)

/-- 'valiselaw14.TracksMid', WHERE WHAT IT READS IS OF BULK AT MOST 1048576: true; the input reads as it did. -/
def tracksMidUptoRow : OpenClaim := { program := "ytmgcjihcbdgihaa", sum := "d9e898f0b6d54e63c3d17fc983442b6cb2c83ae7837cb0f2507b6c6d4f26e128", func := "valise/valiselaw14.TracksMid", spec := "tracksMid", unfollowed := true, recurses := true, apart := false, narrowed := true }
def TracksMidUptoSaid : Prop := tracksMidUptoRow.holds Try.pinned (OpenSpec.upto tracksMidSpec)

/-- 'valiselaw14.TracksJoin', WHERE WHAT IT READS IS OF BULK AT MOST 1048576: true; the input reads as it did. -/
def tracksJoinUptoRow : OpenClaim := { program := "ytmgcjihcbdgihaa", sum := "d9e898f0b6d54e63c3d17fc983442b6cb2c83ae7837cb0f2507b6c6d4f26e128", func := "valise/valiselaw14.TracksJoin", spec := "tracksJoin", apart := false, narrowed := true }
def TracksJoinUptoSaid : Prop := tracksJoinUptoRow.holds Try.pinned (OpenSpec.upto tracksJoinSpec)

/-- 'valiselaw14.TracksBack', WHERE WHAT IT READS IS OF BULK AT MOST 1048576: true; the input reads as it did. -/
def tracksBackUptoRow : OpenClaim := { program := "ytmgcjihcbdgihaa", sum := "d9e898f0b6d54e63c3d17fc983442b6cb2c83ae7837cb0f2507b6c6d4f26e128", func := "valise/valiselaw14.TracksBack", spec := "tracksBack", unfollowed := true, recurses := true, apart := false, narrowed := true }
def TracksBackUptoSaid : Prop := tracksBackUptoRow.holds Try.pinned (OpenSpec.upto tracksBackSpec)

/-- 'valiselaw11.FixedFlat', WHERE WHAT IT READS IS OF BULK AT MOST 1048576: true; the input reads as it did. -/
def fixedFlatUptoRow : OpenClaim := { program := "ytmgcjihcbdgihaa", sum := "d9e898f0b6d54e63c3d17fc983442b6cb2c83ae7837cb0f2507b6c6d4f26e128", func := "valise/valiselaw11.FixedFlat", spec := "fixedFlat", unfollowed := true, recurses := true, apart := false, narrowed := true }
def FixedFlatUptoSaid : Prop := fixedFlatUptoRow.holds Try.pinned (OpenSpec.upto fixedFlatSpec)

/-- 'valiselaw11.FixedSteps', WHERE WHAT IT READS IS OF BULK AT MOST 1048576: true; the input reads as it did. -/
def fixedStepsUptoRow : OpenClaim := { program := "ytmgcjihcbdgihaa", sum := "d9e898f0b6d54e63c3d17fc983442b6cb2c83ae7837cb0f2507b6c6d4f26e128", func := "valise/valiselaw11.FixedSteps", spec := "fixedSteps", unfollowed := true, recurses := true, apart := false, narrowed := true }
def FixedStepsUptoSaid : Prop := fixedStepsUptoRow.holds Try.pinned (OpenSpec.upto fixedStepsSpec)

/-- 'valiselaw11.FixedBack', WHERE WHAT IT READS IS OF BULK AT MOST 1048576: true; the input reads as it did. -/
def fixedBackUptoRow : OpenClaim := { program := "ytmgcjihcbdgihaa", sum := "d9e898f0b6d54e63c3d17fc983442b6cb2c83ae7837cb0f2507b6c6d4f26e128", func := "valise/valiselaw11.FixedBack", spec := "fixedBack", unfollowed := true, recurses := true, apart := false, narrowed := true }
def FixedBackUptoSaid : Prop := fixedBackUptoRow.holds Try.pinned (OpenSpec.upto fixedBackSpec)

/-- 'valiselaw11.FixedLeaves', WHERE WHAT IT READS IS OF BULK AT MOST 1048576: true; the input reads as it did. -/
def fixedLeavesUptoRow : OpenClaim := { program := "ytmgcjihcbdgihaa", sum := "d9e898f0b6d54e63c3d17fc983442b6cb2c83ae7837cb0f2507b6c6d4f26e128", func := "valise/valiselaw11.FixedLeaves", spec := "fixedLeaves", unfollowed := true, recurses := true, apart := false, narrowed := true }
def FixedLeavesUptoSaid : Prop := fixedLeavesUptoRow.holds Try.pinned (OpenSpec.upto fixedLeavesSpec)

end Rows
end Go.Proofs.Ytmgcjihcbdgihaa
