/-
  No cell of these rows narrows 'for every input' (looked for: loops, veiled, ifaces, maps, wideKeys, modest, calm, conditions, laid).
  DERIVED. THE GIVEN ROWS OF THIS SEAT. 10 by the template 'for every input the law returns true; each argument reads behind the call as it read before'; 0 by the template 'total and deterministic' (their statements: YtinmhmphidgdeaaTotals.lean).
  GIVEN WITH THE SEED: the statements are not yours to turn. If you find one false, say at which input.
  Laid BY PROGRAM, IN A SANDBOX (cutbox-rows.mjs): the forced cells as the released guide's own fill.sh prints them over the translation 2ed9993ae68404b9… (all of the seat's roots in one cut). By AI agents, Wed Nov 11 2026. No macro, syntax, notation, axiom, sorry.
-/
import Derived.Test.YtinmhmphidgdeaaChecked
import GoSem.Claim
import GoSem.ClaimJoined
import GoSem.ClaimMapViews
import Derived.JoinedTies
import Derived.KernelRfl
namespace Go.Proofs.Ytinmhmphidgdeaa
/- THE CELL 'sum', in the pinned program and in every row, IS THE sha256 OF THE DUMP (.gsa) THAT YtinmhmphidgdeaaProg.lean LOADS. Nothing in Lean hashes anything: it is a label: what it is worth is what the hold of that sum in a sandbox is worth. -/
noncomputable def Try.pinned : Pinned := { name := "ytinmhmphidgdeaa", sum := "2ed9993ae68404b9e73701d90c1833d29fdf4c05569c1d52cd31ac6c4782d21a", checked := Try.checked }
namespace Rows
def none {H : Type} : Left H := { results := [], args := [] }

/-- 'valiselaw13.WavParses': WHATEVER THE INPUT: true; the input reads as it did. -/
def wavParsesSpec : ChangeSpec := { name := "wavParses", fn := fun _ => fun
  | [d] => { results := [.lit (.bool true)], args := [d] }
  | _ => none }
def wavParsesRow : OpenClaim := { program := "ytinmhmphidgdeaa", sum := "2ed9993ae68404b9e73701d90c1833d29fdf4c05569c1d52cd31ac6c4782d21a", func := "valise/valiselaw13.WavParses", spec := "wavParses", unfollowed := true, recurses := true, apart := false }
def WavParsesSaid : Prop := wavParsesRow.holds Try.pinned (OpenSpec.ofChange wavParsesSpec)

/-- ITS FALSE NEIGHBOUR: 'it returns false'. Refute it at one input. -/
def wavParsesWrong : ChangeSpec := { name := "wavParses", fn := fun _ => fun
  | [d] => { results := [.lit (.bool false)], args := [d] }
  | _ => none }
def WavParsesWrongFalsely : Prop := wavParsesRow.holds Try.pinned (OpenSpec.ofChange wavParsesWrong)

/-- 'valiselaw13.WavMakes': WHATEVER THE INPUT: true; the input reads as it did. -/
def wavMakesSpec : ChangeSpec := { name := "wavMakes", fn := fun _ => fun
  | [d1, d2] => { results := [.lit (.bool true)], args := [d1, d2] }
  | _ => none }
def wavMakesRow : OpenClaim := { program := "ytinmhmphidgdeaa", sum := "2ed9993ae68404b9e73701d90c1833d29fdf4c05569c1d52cd31ac6c4782d21a", func := "valise/valiselaw13.WavMakes", spec := "wavMakes", unfollowed := true, recurses := true, apart := false }
def WavMakesSaid : Prop := wavMakesRow.holds Try.pinned (OpenSpec.ofChange wavMakesSpec)

/-- ITS FALSE NEIGHBOUR: 'it returns false'. Refute it at one input. -/
def wavMakesWrong : ChangeSpec := { name := "wavMakes", fn := fun _ => fun
  | [d1, d2] => { results := [.lit (.bool false)], args := [d1, d2] }
  | _ => none }
def WavMakesWrongFalsely : Prop := wavMakesRow.holds Try.pinned (OpenSpec.ofChange wavMakesWrong)

/-- 'valiselaw13.WavBack': WHATEVER THE INPUT: true; the input reads as it did. -/
def wavBackSpec : ChangeSpec := { name := "wavBack", fn := fun _ => fun
  | [d1, d2, d3, d4] => { results := [.lit (.bool true)], args := [d1, d2, d3, d4] }
  | _ => none }
def wavBackRow : OpenClaim := { program := "ytinmhmphidgdeaa", sum := "2ed9993ae68404b9e73701d90c1833d29fdf4c05569c1d52cd31ac6c4782d21a", func := "valise/valiselaw13.WavBack", spec := "wavBack", apart := false }
def WavBackSaid : Prop := wavBackRow.holds Try.pinned (OpenSpec.ofChange wavBackSpec)

/-- ITS FALSE NEIGHBOUR: 'it returns false'. Refute it at one input. -/
def wavBackWrong : ChangeSpec := { name := "wavBack", fn := fun _ => fun
  | [d1, d2, d3, d4] => { results := [.lit (.bool false)], args := [d1, d2, d3, d4] }
  | _ => none }
def WavBackWrongFalsely : Prop := wavBackRow.holds Try.pinned (OpenSpec.ofChange wavBackWrong)

/-- 'valiselaw13.WavWithin': WHATEVER THE INPUT: true; the input reads as it did. -/
def wavWithinSpec : ChangeSpec := { name := "wavWithin", fn := fun _ => fun
  | [d] => { results := [.lit (.bool true)], args := [d] }
  | _ => none }
def wavWithinRow : OpenClaim := { program := "ytinmhmphidgdeaa", sum := "2ed9993ae68404b9e73701d90c1833d29fdf4c05569c1d52cd31ac6c4782d21a", func := "valise/valiselaw13.WavWithin", spec := "wavWithin", apart := false }
def WavWithinSaid : Prop := wavWithinRow.holds Try.pinned (OpenSpec.ofChange wavWithinSpec)

/-- ITS FALSE NEIGHBOUR: 'it returns false'. Refute it at one input. -/
def wavWithinWrong : ChangeSpec := { name := "wavWithin", fn := fun _ => fun
  | [d] => { results := [.lit (.bool false)], args := [d] }
  | _ => none }
def WavWithinWrongFalsely : Prop := wavWithinRow.holds Try.pinned (OpenSpec.ofChange wavWithinWrong)

/-- 'valiselaw13.WavChunks': WHATEVER THE INPUT: true; the input reads as it did. -/
def wavChunksSpec : ChangeSpec := { name := "wavChunks", fn := fun _ => fun
  | [d1, d2, d3, d4, d5] => { results := [.lit (.bool true)], args := [d1, d2, d3, d4, d5] }
  | _ => none }
def wavChunksRow : OpenClaim := { program := "ytinmhmphidgdeaa", sum := "2ed9993ae68404b9e73701d90c1833d29fdf4c05569c1d52cd31ac6c4782d21a", func := "valise/valiselaw13.WavChunks", spec := "wavChunks", apart := false }
def WavChunksSaid : Prop := wavChunksRow.holds Try.pinned (OpenSpec.ofChange wavChunksSpec)

/-- ITS FALSE NEIGHBOUR: 'it returns false'. Refute it at one input. -/
def wavChunksWrong : ChangeSpec := { name := "wavChunks", fn := fun _ => fun
  | [d1, d2, d3, d4, d5] => { results := [.lit (.bool false)], args := [d1, d2, d3, d4, d5] }
  | _ => none }
def WavChunksWrongFalsely : Prop := wavChunksRow.holds Try.pinned (OpenSpec.ofChange wavChunksWrong)

/-- 'valiselaw04.CoderEncodes': WHATEVER THE INPUT: true; the input reads as it did. -/
def coderEncodesSpec : ChangeSpec := { name := "coderEncodes", fn := fun _ => fun
  | [d1, d2] => { results := [.lit (.bool true)], args := [d1, d2] }
  | _ => none }
def coderEncodesRow : OpenClaim := { program := "ytinmhmphidgdeaa", sum := "2ed9993ae68404b9e73701d90c1833d29fdf4c05569c1d52cd31ac6c4782d21a", func := "valise/valiselaw04.CoderEncodes", spec := "coderEncodes", apart := false }
def CoderEncodesSaid : Prop := coderEncodesRow.holds Try.pinned (OpenSpec.ofChange coderEncodesSpec)

/-- ITS FALSE NEIGHBOUR: 'it returns false'. Refute it at one input. -/
def coderEncodesWrong : ChangeSpec := { name := "coderEncodes", fn := fun _ => fun
  | [d1, d2] => { results := [.lit (.bool false)], args := [d1, d2] }
  | _ => none }
def CoderEncodesWrongFalsely : Prop := coderEncodesRow.holds Try.pinned (OpenSpec.ofChange coderEncodesWrong)

/-- 'valiselaw04.CoderSmall': WHATEVER THE INPUT: true; the input reads as it did. -/
def coderSmallSpec : ChangeSpec := { name := "coderSmall", fn := fun _ => fun
  | [d] => { results := [.lit (.bool true)], args := [d] }
  | _ => none }
def coderSmallRow : OpenClaim := { program := "ytinmhmphidgdeaa", sum := "2ed9993ae68404b9e73701d90c1833d29fdf4c05569c1d52cd31ac6c4782d21a", func := "valise/valiselaw04.CoderSmall", spec := "coderSmall", apart := false }
def CoderSmallSaid : Prop := coderSmallRow.holds Try.pinned (OpenSpec.ofChange coderSmallSpec)

/-- ITS FALSE NEIGHBOUR: 'it returns false'. Refute it at one input. -/
def coderSmallWrong : ChangeSpec := { name := "coderSmall", fn := fun _ => fun
  | [d] => { results := [.lit (.bool false)], args := [d] }
  | _ => none }
def CoderSmallWrongFalsely : Prop := coderSmallRow.holds Try.pinned (OpenSpec.ofChange coderSmallWrong)

/-- 'valiselaw04.CoderNil': WHATEVER THE INPUT: true; the input reads as it did. -/
def coderNilSpec : ChangeSpec := { name := "coderNil", fn := fun _ => fun
  | [d1, d2] => { results := [.lit (.bool true)], args := [d1, d2] }
  | _ => none }
def coderNilRow : OpenClaim := { program := "ytinmhmphidgdeaa", sum := "2ed9993ae68404b9e73701d90c1833d29fdf4c05569c1d52cd31ac6c4782d21a", func := "valise/valiselaw04.CoderNil", spec := "coderNil", apart := false }
def CoderNilSaid : Prop := coderNilRow.holds Try.pinned (OpenSpec.ofChange coderNilSpec)

/-- ITS FALSE NEIGHBOUR: 'it returns false'. Refute it at one input. -/
def coderNilWrong : ChangeSpec := { name := "coderNil", fn := fun _ => fun
  | [d1, d2] => { results := [.lit (.bool false)], args := [d1, d2] }
  | _ => none }
def CoderNilWrongFalsely : Prop := coderNilRow.holds Try.pinned (OpenSpec.ofChange coderNilWrong)

/-- 'valiselaw04.CoderDecodes': WHATEVER THE INPUT: true; the input reads as it did. -/
def coderDecodesSpec : ChangeSpec := { name := "coderDecodes", fn := fun _ => fun
  | [d1, d2] => { results := [.lit (.bool true)], args := [d1, d2] }
  | _ => none }
def coderDecodesRow : OpenClaim := { program := "ytinmhmphidgdeaa", sum := "2ed9993ae68404b9e73701d90c1833d29fdf4c05569c1d52cd31ac6c4782d21a", func := "valise/valiselaw04.CoderDecodes", spec := "coderDecodes", unfollowed := true, recurses := true, apart := false }
def CoderDecodesSaid : Prop := coderDecodesRow.holds Try.pinned (OpenSpec.ofChange coderDecodesSpec)

/-- ITS FALSE NEIGHBOUR: 'it returns false'. Refute it at one input. -/
def coderDecodesWrong : ChangeSpec := { name := "coderDecodes", fn := fun _ => fun
  | [d1, d2] => { results := [.lit (.bool false)], args := [d1, d2] }
  | _ => none }
def CoderDecodesWrongFalsely : Prop := coderDecodesRow.holds Try.pinned (OpenSpec.ofChange coderDecodesWrong)

/-- 'valiselaw04.CoderBack': WHATEVER THE INPUT: true; the input reads as it did. -/
def coderBackSpec : ChangeSpec := { name := "coderBack", fn := fun _ => fun
  | [d] => { results := [.lit (.bool true)], args := [d] }
  | _ => none }
def coderBackRow : OpenClaim := { program := "ytinmhmphidgdeaa", sum := "2ed9993ae68404b9e73701d90c1833d29fdf4c05569c1d52cd31ac6c4782d21a", func := "valise/valiselaw04.CoderBack", spec := "coderBack", apart := false }
def CoderBackSaid : Prop := coderBackRow.holds Try.pinned (OpenSpec.ofChange coderBackSpec)

/-- ITS FALSE NEIGHBOUR: 'it returns false'. Refute it at one input. -/
def coderBackWrong : ChangeSpec := { name := "coderBack", fn := fun _ => fun
  | [d] => { results := [.lit (.bool false)], args := [d] }
  | _ => none }
def CoderBackWrongFalsely : Prop := coderBackRow.holds Try.pinned (OpenSpec.ofChange coderBackWrong)

/- THE SECOND FORM. 'bulk': how many values and letters a reading holds, each counted each time it is reached (what is shared counts as often as it is met; a slice's spare places count too). A statement '..UptoSaid' is the law's where the arguments, and the package variables that the reading takes, are together of bulk at most 1048576: NARROWER than '..Said'. Prove '..Said' where nothing that the law and all that it calls make is longer than what came in: it says more and counts as full. Else prove '..UptoSaid'. A law counts once. -/
mutual
def uptoBulk {H : Type} : DataW H → Nat
  | .lit (.string bytes) => bytes.length + 1
  | .lit _ => 1
  | .nil => 1
  | .ptr d => uptoBulk d + 1
  | .slice elems spare => uptoBulkAll elems + uptoBulkAll spare + 1
  | .agg parts => uptoBulkAll parts + 1
  | .iface _ d => uptoBulk d + 1
  | .map entries => uptoBulkEntries entries + 1
  | .held _ => 1
def uptoBulkAll {H : Type} : List (DataW H) → Nat
  | [] => 0
  | d :: r => uptoBulk d + uptoBulkAll r
def uptoBulkEntries {H : Type} : List (Lit × DataW H) → Nat
  | [] => 0
  | x :: r => uptoBulkEntry x + uptoBulkEntries r
def uptoBulkEntry {H : Type} : Lit × DataW H → Nat
  | (.string bytes, d) => bytes.length + uptoBulk d + 1
  | (_, d) => uptoBulk d + 1
 end
def uptoSmall : (H : Type) → List (DataW H) → Bool := fun _ ds => decide (uptoBulkAll ds ≤ 1048576)
def OpenSpec.upto (s : _root_.Go.ChangeSpec) : _root_.Go.OpenSpec := { _root_.Go.OpenSpec.ofChange s with cond := some uptoSmall }

/-- 'valiselaw13.WavParses', WHERE WHAT IT READS IS OF BULK AT MOST 1048576: true; the input reads as it did. -/
def wavParsesUptoRow : OpenClaim := { program := "ytinmhmphidgdeaa", sum := "2ed9993ae68404b9e73701d90c1833d29fdf4c05569c1d52cd31ac6c4782d21a", func := "valise/valiselaw13.WavParses", spec := "wavParses", unfollowed := true, recurses := true, apart := false, narrowed := true }
def WavParsesUptoSaid : Prop := wavParsesUptoRow.holds Try.pinned (OpenSpec.upto wavParsesSpec)

/-- 'valiselaw13.WavMakes', WHERE WHAT IT READS IS OF BULK AT MOST 1048576: true; the input reads as it did. -/
def wavMakesUptoRow : OpenClaim := { program := "ytinmhmphidgdeaa", sum := "2ed9993ae68404b9e73701d90c1833d29fdf4c05569c1d52cd31ac6c4782d21a", func := "valise/valiselaw13.WavMakes", spec := "wavMakes", unfollowed := true, recurses := true, apart := false, narrowed := true }
def WavMakesUptoSaid : Prop := wavMakesUptoRow.holds Try.pinned (OpenSpec.upto wavMakesSpec)

/-- 'valiselaw13.WavBack', WHERE WHAT IT READS IS OF BULK AT MOST 1048576: true; the input reads as it did. -/
def wavBackUptoRow : OpenClaim := { program := "ytinmhmphidgdeaa", sum := "2ed9993ae68404b9e73701d90c1833d29fdf4c05569c1d52cd31ac6c4782d21a", func := "valise/valiselaw13.WavBack", spec := "wavBack", apart := false, narrowed := true }
def WavBackUptoSaid : Prop := wavBackUptoRow.holds Try.pinned (OpenSpec.upto wavBackSpec)

/-- 'valiselaw13.WavWithin', WHERE WHAT IT READS IS OF BULK AT MOST 1048576: true; the input reads as it did. -/
def wavWithinUptoRow : OpenClaim := { program := "ytinmhmphidgdeaa", sum := "2ed9993ae68404b9e73701d90c1833d29fdf4c05569c1d52cd31ac6c4782d21a", func := "valise/valiselaw13.WavWithin", spec := "wavWithin", apart := false, narrowed := true }
def WavWithinUptoSaid : Prop := wavWithinUptoRow.holds Try.pinned (OpenSpec.upto wavWithinSpec)

/-- 'valiselaw13.WavChunks', WHERE WHAT IT READS IS OF BULK AT MOST 1048576: true; the input reads as it did. -/
def wavChunksUptoRow : OpenClaim := { program := "ytinmhmphidgdeaa", sum := "2ed9993ae68404b9e73701d90c1833d29fdf4c05569c1d52cd31ac6c4782d21a", func := "valise/valiselaw13.WavChunks", spec := "wavChunks", apart := false, narrowed := true }
def WavChunksUptoSaid : Prop := wavChunksUptoRow.holds Try.pinned (OpenSpec.upto wavChunksSpec)

/-- 'valiselaw04.CoderEncodes', WHERE WHAT IT READS IS OF BULK AT MOST 1048576: true; the input reads as it did. -/
def coderEncodesUptoRow : OpenClaim := { program := "ytinmhmphidgdeaa", sum := "2ed9993ae68404b9e73701d90c1833d29fdf4c05569c1d52cd31ac6c4782d21a", func := "valise/valiselaw04.CoderEncodes", spec := "coderEncodes", apart := false, narrowed := true }
def CoderEncodesUptoSaid : Prop := coderEncodesUptoRow.holds Try.pinned (OpenSpec.upto coderEncodesSpec)

/-- 'valiselaw04.CoderSmall', WHERE WHAT IT READS IS OF BULK AT MOST 1048576: true; the input reads as it did. -/
def coderSmallUptoRow : OpenClaim := { program := "ytinmhmphidgdeaa", sum := "2ed9993ae68404b9e73701d90c1833d29fdf4c05569c1d52cd31ac6c4782d21a", func := "valise/valiselaw04.CoderSmall", spec := "coderSmall", apart := false, narrowed := true }
def CoderSmallUptoSaid : Prop := coderSmallUptoRow.holds Try.pinned (OpenSpec.upto coderSmallSpec)

/-- 'valiselaw04.CoderNil', WHERE WHAT IT READS IS OF BULK AT MOST 1048576: true; the input reads as it did. -/
def coderNilUptoRow : OpenClaim := { program := "ytinmhmphidgdeaa", sum := "2ed9993ae68404b9e73701d90c1833d29fdf4c05569c1d52cd31ac6c4782d21a", func := "valise/valiselaw04.CoderNil", spec := "coderNil", apart := false, narrowed := true }
def CoderNilUptoSaid : Prop := coderNilUptoRow.holds Try.pinned (OpenSpec.upto coderNilSpec)

/-- 'valiselaw04.CoderDecodes', WHERE WHAT IT READS IS OF BULK AT MOST 1048576: true; the input reads as it did. -/
def coderDecodesUptoRow : OpenClaim := { program := "ytinmhmphidgdeaa", sum := "2ed9993ae68404b9e73701d90c1833d29fdf4c05569c1d52cd31ac6c4782d21a", func := "valise/valiselaw04.CoderDecodes", spec := "coderDecodes", unfollowed := true, recurses := true, apart := false, narrowed := true }
def CoderDecodesUptoSaid : Prop := coderDecodesUptoRow.holds Try.pinned (OpenSpec.upto coderDecodesSpec)

/-- 'valiselaw04.CoderBack', WHERE WHAT IT READS IS OF BULK AT MOST 1048576: true; the input reads as it did. -/
def coderBackUptoRow : OpenClaim := { program := "ytinmhmphidgdeaa", sum := "2ed9993ae68404b9e73701d90c1833d29fdf4c05569c1d52cd31ac6c4782d21a", func := "valise/valiselaw04.CoderBack", spec := "coderBack", apart := false, narrowed := true }
def CoderBackUptoSaid : Prop := coderBackUptoRow.holds Try.pinned (OpenSpec.upto coderBackSpec)

end Rows
end Go.Proofs.Ytinmhmphidgdeaa
