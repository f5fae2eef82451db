/-
  No cell of these rows narrows 'for every input' (looked for: loops, veiled, ifaces, maps, wideKeys, modest, calm, conditions, laid).
  DERIVED. THE GIVEN ROWS OF THIS SEAT. 12 by the template 'for every input the law returns true; each argument reads behind the call as it read before'; 0 by the template 'total and deterministic' (their statements: YtdbnobeopgfhgaaTotals.lean).
  GIVEN WITH THE SEED: the statements are not yours to turn. If you find one false, say at which input.
  Laid BY PROGRAM, IN A SANDBOX (cutbox-rows.mjs): the forced cells as the released guide's own fill.sh prints them over the translation fe7bbc2e0da70d34… (all of the seat's roots in one cut). By AI agents, Wed Nov 11 2026. No macro, syntax, notation, axiom, sorry.
-/
import Derived.Test.YtdbnobeopgfhgaaChecked
import GoSem.Claim
import GoSem.ClaimJoined
import GoSem.ClaimMapViews
import Derived.JoinedTies
import Derived.KernelRfl
namespace Go.Proofs.Ytdbnobeopgfhgaa
/- THE CELL 'sum', in the pinned program and in every row, IS THE sha256 OF THE DUMP (.gsa) THAT YtdbnobeopgfhgaaProg.lean LOADS. Nothing in Lean hashes anything: it is a label: what it is worth is what the hold of that sum in a sandbox is worth. -/
noncomputable def Try.pinned : Pinned := { name := "ytdbnobeopgfhgaa", sum := "fe7bbc2e0da70d340f38ca9867afbdd366a926a6a83ae9c56df5bbc909ba3cde", checked := Try.checked }
namespace Rows
def none {H : Type} : Left H := { results := [], args := [] }

/-- 'valiselaw07.StageFirst': WHATEVER THE INPUT: true; the input reads as it did. -/
def stageFirstSpec : ChangeSpec := { name := "stageFirst", fn := fun _ => fun
  | [d1, d2] => { results := [.lit (.bool true)], args := [d1, d2] }
  | _ => none }
def stageFirstRow : OpenClaim := { program := "ytdbnobeopgfhgaa", sum := "fe7bbc2e0da70d340f38ca9867afbdd366a926a6a83ae9c56df5bbc909ba3cde", func := "valise/valiselaw07.StageFirst", spec := "stageFirst", apart := false }
def StageFirstSaid : Prop := stageFirstRow.holds Try.pinned (OpenSpec.ofChange stageFirstSpec)

/-- ITS FALSE NEIGHBOUR: 'it returns false'. Refute it at one input. -/
def stageFirstWrong : ChangeSpec := { name := "stageFirst", fn := fun _ => fun
  | [d1, d2] => { results := [.lit (.bool false)], args := [d1, d2] }
  | _ => none }
def StageFirstWrongFalsely : Prop := stageFirstRow.holds Try.pinned (OpenSpec.ofChange stageFirstWrong)

/-- 'valiselaw07.StagePlays': WHATEVER THE INPUT: true; the input reads as it did. -/
def stagePlaysSpec : ChangeSpec := { name := "stagePlays", fn := fun _ => fun
  | [d1, d2, d3, d4] => { results := [.lit (.bool true)], args := [d1, d2, d3, d4] }
  | _ => none }
def stagePlaysRow : OpenClaim := { program := "ytdbnobeopgfhgaa", sum := "fe7bbc2e0da70d340f38ca9867afbdd366a926a6a83ae9c56df5bbc909ba3cde", func := "valise/valiselaw07.StagePlays", spec := "stagePlays", apart := false }
def StagePlaysSaid : Prop := stagePlaysRow.holds Try.pinned (OpenSpec.ofChange stagePlaysSpec)

/-- ITS FALSE NEIGHBOUR: 'it returns false'. Refute it at one input. -/
def stagePlaysWrong : ChangeSpec := { name := "stagePlays", fn := fun _ => fun
  | [d1, d2, d3, d4] => { results := [.lit (.bool false)], args := [d1, d2, d3, d4] }
  | _ => none }
def StagePlaysWrongFalsely : Prop := stagePlaysRow.holds Try.pinned (OpenSpec.ofChange stagePlaysWrong)

/-- 'valiselaw07.StageNil': WHATEVER THE INPUT: true; the input reads as it did. -/
def stageNilSpec : ChangeSpec := { name := "stageNil", fn := fun _ => fun
  | [d1, d2, d3, d4] => { results := [.lit (.bool true)], args := [d1, d2, d3, d4] }
  | _ => none }
def stageNilRow : OpenClaim := { program := "ytdbnobeopgfhgaa", sum := "fe7bbc2e0da70d340f38ca9867afbdd366a926a6a83ae9c56df5bbc909ba3cde", func := "valise/valiselaw07.StageNil", spec := "stageNil", apart := false }
def StageNilSaid : Prop := stageNilRow.holds Try.pinned (OpenSpec.ofChange stageNilSpec)

/-- ITS FALSE NEIGHBOUR: 'it returns false'. Refute it at one input. -/
def stageNilWrong : ChangeSpec := { name := "stageNil", fn := fun _ => fun
  | [d1, d2, d3, d4] => { results := [.lit (.bool false)], args := [d1, d2, d3, d4] }
  | _ => none }
def StageNilWrongFalsely : Prop := stageNilRow.holds Try.pinned (OpenSpec.ofChange stageNilWrong)

/-- 'valiselaw08.ModelPlays': WHATEVER THE INPUT: true; the input reads as it did. -/
def modelPlaysSpec : ChangeSpec := { name := "modelPlays", fn := fun _ => fun
  | [d1, d2, d3] => { results := [.lit (.bool true)], args := [d1, d2, d3] }
  | _ => none }
def modelPlaysRow : OpenClaim := { program := "ytdbnobeopgfhgaa", sum := "fe7bbc2e0da70d340f38ca9867afbdd366a926a6a83ae9c56df5bbc909ba3cde", func := "valise/valiselaw08.ModelPlays", spec := "modelPlays", apart := false }
def ModelPlaysSaid : Prop := modelPlaysRow.holds Try.pinned (OpenSpec.ofChange modelPlaysSpec)

/-- ITS FALSE NEIGHBOUR: 'it returns false'. Refute it at one input. -/
def modelPlaysWrong : ChangeSpec := { name := "modelPlays", fn := fun _ => fun
  | [d1, d2, d3] => { results := [.lit (.bool false)], args := [d1, d2, d3] }
  | _ => none }
def ModelPlaysWrongFalsely : Prop := modelPlaysRow.holds Try.pinned (OpenSpec.ofChange modelPlaysWrong)

/-- 'valiselaw08.ModelLearns': WHATEVER THE INPUT: true; the input reads as it did. -/
def modelLearnsSpec : ChangeSpec := { name := "modelLearns", fn := fun _ => fun
  | [d1, d2] => { results := [.lit (.bool true)], args := [d1, d2] }
  | _ => none }
def modelLearnsRow : OpenClaim := { program := "ytdbnobeopgfhgaa", sum := "fe7bbc2e0da70d340f38ca9867afbdd366a926a6a83ae9c56df5bbc909ba3cde", func := "valise/valiselaw08.ModelLearns", spec := "modelLearns", apart := false }
def ModelLearnsSaid : Prop := modelLearnsRow.holds Try.pinned (OpenSpec.ofChange modelLearnsSpec)

/-- ITS FALSE NEIGHBOUR: 'it returns false'. Refute it at one input. -/
def modelLearnsWrong : ChangeSpec := { name := "modelLearns", fn := fun _ => fun
  | [d1, d2] => { results := [.lit (.bool false)], args := [d1, d2] }
  | _ => none }
def ModelLearnsWrongFalsely : Prop := modelLearnsRow.holds Try.pinned (OpenSpec.ofChange modelLearnsWrong)

/-- 'valiselaw08.ModelNil': WHATEVER THE INPUT: true; the input reads as it did. -/
def modelNilSpec : ChangeSpec := { name := "modelNil", fn := fun _ => fun
  | [d] => { results := [.lit (.bool true)], args := [d] }
  | _ => none }
def modelNilRow : OpenClaim := { program := "ytdbnobeopgfhgaa", sum := "fe7bbc2e0da70d340f38ca9867afbdd366a926a6a83ae9c56df5bbc909ba3cde", func := "valise/valiselaw08.ModelNil", spec := "modelNil", apart := false }
def ModelNilSaid : Prop := modelNilRow.holds Try.pinned (OpenSpec.ofChange modelNilSpec)

/-- ITS FALSE NEIGHBOUR: 'it returns false'. Refute it at one input. -/
def modelNilWrong : ChangeSpec := { name := "modelNil", fn := fun _ => fun
  | [d] => { results := [.lit (.bool false)], args := [d] }
  | _ => none }
def ModelNilWrongFalsely : Prop := modelNilRow.holds Try.pinned (OpenSpec.ofChange modelNilWrong)

/-- 'valiselaw08.ModelSame': WHATEVER THE INPUT: true; the input reads as it did. -/
def modelSameSpec : ChangeSpec := { name := "modelSame", fn := fun _ => fun
  | [d1, d2, d3] => { results := [.lit (.bool true)], args := [d1, d2, d3] }
  | _ => none }
def modelSameRow : OpenClaim := { program := "ytdbnobeopgfhgaa", sum := "fe7bbc2e0da70d340f38ca9867afbdd366a926a6a83ae9c56df5bbc909ba3cde", func := "valise/valiselaw08.ModelSame", spec := "modelSame", apart := false }
def ModelSameSaid : Prop := modelSameRow.holds Try.pinned (OpenSpec.ofChange modelSameSpec)

/-- ITS FALSE NEIGHBOUR: 'it returns false'. Refute it at one input. -/
def modelSameWrong : ChangeSpec := { name := "modelSame", fn := fun _ => fun
  | [d1, d2, d3] => { results := [.lit (.bool false)], args := [d1, d2, d3] }
  | _ => none }
def ModelSameWrongFalsely : Prop := modelSameRow.holds Try.pinned (OpenSpec.ofChange modelSameWrong)

/-- 'valiselaw09.StreamPacks': WHATEVER THE INPUT: true; the input reads as it did. -/
def streamPacksSpec : ChangeSpec := { name := "streamPacks", fn := fun _ => fun
  | [d1, d2] => { results := [.lit (.bool true)], args := [d1, d2] }
  | _ => none }
def streamPacksRow : OpenClaim := { program := "ytdbnobeopgfhgaa", sum := "fe7bbc2e0da70d340f38ca9867afbdd366a926a6a83ae9c56df5bbc909ba3cde", func := "valise/valiselaw09.StreamPacks", spec := "streamPacks", unfollowed := true, recurses := true, apart := false }
def StreamPacksSaid : Prop := streamPacksRow.holds Try.pinned (OpenSpec.ofChange streamPacksSpec)

/-- ITS FALSE NEIGHBOUR: 'it returns false'. Refute it at one input. -/
def streamPacksWrong : ChangeSpec := { name := "streamPacks", fn := fun _ => fun
  | [d1, d2] => { results := [.lit (.bool false)], args := [d1, d2] }
  | _ => none }
def StreamPacksWrongFalsely : Prop := streamPacksRow.holds Try.pinned (OpenSpec.ofChange streamPacksWrong)

/-- 'valiselaw09.StreamSmall': WHATEVER THE INPUT: true; the input reads as it did. -/
def streamSmallSpec : ChangeSpec := { name := "streamSmall", fn := fun _ => fun
  | [d1, d2, d3] => { results := [.lit (.bool true)], args := [d1, d2, d3] }
  | _ => none }
def streamSmallRow : OpenClaim := { program := "ytdbnobeopgfhgaa", sum := "fe7bbc2e0da70d340f38ca9867afbdd366a926a6a83ae9c56df5bbc909ba3cde", func := "valise/valiselaw09.StreamSmall", spec := "streamSmall", apart := false }
def StreamSmallSaid : Prop := streamSmallRow.holds Try.pinned (OpenSpec.ofChange streamSmallSpec)

/-- ITS FALSE NEIGHBOUR: 'it returns false'. Refute it at one input. -/
def streamSmallWrong : ChangeSpec := { name := "streamSmall", fn := fun _ => fun
  | [d1, d2, d3] => { results := [.lit (.bool false)], args := [d1, d2, d3] }
  | _ => none }
def StreamSmallWrongFalsely : Prop := streamSmallRow.holds Try.pinned (OpenSpec.ofChange streamSmallWrong)

/-- 'valiselaw09.StreamUnpacks': WHATEVER THE INPUT: true; the input reads as it did. -/
def streamUnpacksSpec : ChangeSpec := { name := "streamUnpacks", fn := fun _ => fun
  | [d1, d2, d3] => { results := [.lit (.bool true)], args := [d1, d2, d3] }
  | _ => none }
def streamUnpacksRow : OpenClaim := { program := "ytdbnobeopgfhgaa", sum := "fe7bbc2e0da70d340f38ca9867afbdd366a926a6a83ae9c56df5bbc909ba3cde", func := "valise/valiselaw09.StreamUnpacks", spec := "streamUnpacks", unfollowed := true, recurses := true, apart := false }
def StreamUnpacksSaid : Prop := streamUnpacksRow.holds Try.pinned (OpenSpec.ofChange streamUnpacksSpec)

/-- ITS FALSE NEIGHBOUR: 'it returns false'. Refute it at one input. -/
def streamUnpacksWrong : ChangeSpec := { name := "streamUnpacks", fn := fun _ => fun
  | [d1, d2, d3] => { results := [.lit (.bool false)], args := [d1, d2, d3] }
  | _ => none }
def StreamUnpacksWrongFalsely : Prop := streamUnpacksRow.holds Try.pinned (OpenSpec.ofChange streamUnpacksWrong)

/-- 'valiselaw09.StreamBack': WHATEVER THE INPUT: true; the input reads as it did. -/
def streamBackSpec : ChangeSpec := { name := "streamBack", fn := fun _ => fun
  | [d1, d2, d3] => { results := [.lit (.bool true)], args := [d1, d2, d3] }
  | _ => none }
def streamBackRow : OpenClaim := { program := "ytdbnobeopgfhgaa", sum := "fe7bbc2e0da70d340f38ca9867afbdd366a926a6a83ae9c56df5bbc909ba3cde", func := "valise/valiselaw09.StreamBack", spec := "streamBack", apart := false }
def StreamBackSaid : Prop := streamBackRow.holds Try.pinned (OpenSpec.ofChange streamBackSpec)

/-- ITS FALSE NEIGHBOUR: 'it returns false'. Refute it at one input. -/
def streamBackWrong : ChangeSpec := { name := "streamBack", fn := fun _ => fun
  | [d1, d2, d3] => { results := [.lit (.bool false)], args := [d1, d2, d3] }
  | _ => none }
def StreamBackWrongFalsely : Prop := streamBackRow.holds Try.pinned (OpenSpec.ofChange streamBackWrong)

/-- 'valiselaw09.StreamLimits': WHATEVER THE INPUT: true; the input reads as it did. -/
def streamLimitsSpec : ChangeSpec := { name := "streamLimits", fn := fun _ => fun
  | [d1, d2] => { results := [.lit (.bool true)], args := [d1, d2] }
  | _ => none }
def streamLimitsRow : OpenClaim := { program := "ytdbnobeopgfhgaa", sum := "fe7bbc2e0da70d340f38ca9867afbdd366a926a6a83ae9c56df5bbc909ba3cde", func := "valise/valiselaw09.StreamLimits", spec := "streamLimits", apart := false }
def StreamLimitsSaid : Prop := streamLimitsRow.holds Try.pinned (OpenSpec.ofChange streamLimitsSpec)

/-- ITS FALSE NEIGHBOUR: 'it returns false'. Refute it at one input. -/
def streamLimitsWrong : ChangeSpec := { name := "streamLimits", fn := fun _ => fun
  | [d1, d2] => { results := [.lit (.bool false)], args := [d1, d2] }
  | _ => none }
def StreamLimitsWrongFalsely : Prop := streamLimitsRow.holds Try.pinned (OpenSpec.ofChange streamLimitsWrong)

/- THE SECOND FORM. 'bulk': how many values and letters a reading holds, each counted each time it is reached (what is shared counts as often as it is met; a slice's spare places count too). A statement '..UptoSaid' is the law's where the arguments, and the package variables that the reading takes, are together of bulk at most 1048576: NARROWER than '..Said'. Prove '..Said' where nothing that the law and all that it calls make is longer than what came in: it says more and counts as full. Else prove '..UptoSaid'. A law counts once. -/
mutual
def uptoBulk {H : Type} : DataW H → Nat
  | .lit (.string bytes) => bytes.length + 1
  | .lit _ => 1
  | .nil => 1
  | .ptr d => uptoBulk d + 1
  | .slice elems spare => uptoBulkAll elems + uptoBulkAll spare + 1
  | .agg parts => uptoBulkAll parts + 1
  | .iface _ d => uptoBulk d + 1
  | .map entries => uptoBulkEntries entries + 1
  | .held _ => 1
def uptoBulkAll {H : Type} : List (DataW H) → Nat
  | [] => 0
  | d :: r => uptoBulk d + uptoBulkAll r
def uptoBulkEntries {H : Type} : List (Lit × DataW H) → Nat
  | [] => 0
  | x :: r => uptoBulkEntry x + uptoBulkEntries r
def uptoBulkEntry {H : Type} : Lit × DataW H → Nat
  | (.string bytes, d) => bytes.length + uptoBulk d + 1
  | (_, d) => uptoBulk d + 1
 end
def uptoSmall : (H : Type) → List (DataW H) → Bool := fun _ ds => decide (uptoBulkAll ds ≤ 1048576)
def OpenSpec.upto (s : _root_.Go.ChangeSpec) : _root_.Go.OpenSpec := { _root_.Go.OpenSpec.ofChange s with cond := some uptoSmall }

/-- 'valiselaw07.StageFirst', WHERE WHAT IT READS IS OF BULK AT MOST 1048576: true; the input reads as it did. -/
def stageFirstUptoRow : OpenClaim := { program := "ytdbnobeopgfhgaa", sum := "fe7bbc2e0da70d340f38ca9867afbdd366a926a6a83ae9c56df5bbc909ba3cde", func := "valise/valiselaw07.StageFirst", spec := "stageFirst", apart := false, narrowed := true }
def StageFirstUptoSaid : Prop := stageFirstUptoRow.holds Try.pinned (OpenSpec.upto stageFirstSpec)

/-- 'valiselaw07.StagePlays', WHERE WHAT IT READS IS OF BULK AT MOST 1048576: true; the input reads as it did. -/
def stagePlaysUptoRow : OpenClaim := { program := "ytdbnobeopgfhgaa", sum := "fe7bbc2e0da70d340f38ca9867afbdd366a926a6a83ae9c56df5bbc909ba3cde", func := "valise/valiselaw07.StagePlays", spec := "stagePlays", apart := false, narrowed := true }
def StagePlaysUptoSaid : Prop := stagePlaysUptoRow.holds Try.pinned (OpenSpec.upto stagePlaysSpec)

/-- 'valiselaw07.StageNil', WHERE WHAT IT READS IS OF BULK AT MOST 1048576: true; the input reads as it did. -/
def stageNilUptoRow : OpenClaim := { program := "ytdbnobeopgfhgaa", sum := "fe7bbc2e0da70d340f38ca9867afbdd366a926a6a83ae9c56df5bbc909ba3cde", func := "valise/valiselaw07.StageNil", spec := "stageNil", apart := false, narrowed := true }
def StageNilUptoSaid : Prop := stageNilUptoRow.holds Try.pinned (OpenSpec.upto stageNilSpec)

/-- 'valiselaw08.ModelPlays', WHERE WHAT IT READS IS OF BULK AT MOST 1048576: true; the input reads as it did. -/
def modelPlaysUptoRow : OpenClaim := { program := "ytdbnobeopgfhgaa", sum := "fe7bbc2e0da70d340f38ca9867afbdd366a926a6a83ae9c56df5bbc909ba3cde", func := "valise/valiselaw08.ModelPlays", spec := "modelPlays", apart := false, narrowed := true }
def ModelPlaysUptoSaid : Prop := modelPlaysUptoRow.holds Try.pinned (OpenSpec.upto modelPlaysSpec)

/-- 'valiselaw08.ModelLearns', WHERE WHAT IT READS IS OF BULK AT MOST 1048576: true; the input reads as it did. -/
def modelLearnsUptoRow : OpenClaim := { program := "ytdbnobeopgfhgaa", sum := "fe7bbc2e0da70d340f38ca9867afbdd366a926a6a83ae9c56df5bbc909ba3cde", func := "valise/valiselaw08.ModelLearns", spec := "modelLearns", apart := false, narrowed := true }
def ModelLearnsUptoSaid : Prop := modelLearnsUptoRow.holds Try.pinned (OpenSpec.upto modelLearnsSpec)

/-- 'valiselaw08.ModelNil', WHERE WHAT IT READS IS OF BULK AT MOST 1048576: true; the input reads as it did. -/
def modelNilUptoRow : OpenClaim := { program := "ytdbnobeopgfhgaa", sum := "fe7bbc2e0da70d340f38ca9867afbdd366a926a6a83ae9c56df5bbc909ba3cde", func := "valise/valiselaw08.ModelNil", spec := "modelNil", apart := false, narrowed := true }
def ModelNilUptoSaid : Prop := modelNilUptoRow.holds Try.pinned (OpenSpec.upto modelNilSpec)

/-- 'valiselaw08.ModelSame', WHERE WHAT IT READS IS OF BULK AT MOST 1048576: true; the input reads as it did. -/
def modelSameUptoRow : OpenClaim := { program := "ytdbnobeopgfhgaa", sum := "fe7bbc2e0da70d340f38ca9867afbdd366a926a6a83ae9c56df5bbc909ba3cde", func := "valise/valiselaw08.ModelSame", spec := "modelSame", apart := false, narrowed := true }
def ModelSameUptoSaid : Prop := modelSameUptoRow.holds Try.pinned (OpenSpec.upto modelSameSpec)

/-- 'valiselaw09.StreamPacks', WHERE WHAT IT READS IS OF BULK AT MOST 1048576: true; the input reads as it did. -/
def streamPacksUptoRow : OpenClaim := { program := "ytdbnobeopgfhgaa", sum := "fe7bbc2e0da70d340f38ca9867afbdd366a926a6a83ae9c56df5bbc909ba3cde", func := "valise/valiselaw09.StreamPacks", spec := "streamPacks", unfollowed := true, recurses := true, apart := false, narrowed := true }
def StreamPacksUptoSaid : Prop := streamPacksUptoRow.holds Try.pinned (OpenSpec.upto streamPacksSpec)

/-- 'valiselaw09.StreamSmall', WHERE WHAT IT READS IS OF BULK AT MOST 1048576: true; the input reads as it did. -/
def streamSmallUptoRow : OpenClaim := { program := "ytdbnobeopgfhgaa", sum := "fe7bbc2e0da70d340f38ca9867afbdd366a926a6a83ae9c56df5bbc909ba3cde", func := "valise/valiselaw09.StreamSmall", spec := "streamSmall", apart := false, narrowed := true }
def StreamSmallUptoSaid : Prop := streamSmallUptoRow.holds Try.pinned (OpenSpec.upto streamSmallSpec)

/-- 'valiselaw09.StreamUnpacks', WHERE WHAT IT READS IS OF BULK AT MOST 1048576: true; the input reads as it did. -/
def streamUnpacksUptoRow : OpenClaim := { program := "ytdbnobeopgfhgaa", sum := "fe7bbc2e0da70d340f38ca9867afbdd366a926a6a83ae9c56df5bbc909ba3cde", func := "valise/valiselaw09.StreamUnpacks", spec := "streamUnpacks", unfollowed := true, recurses := true, apart := false, narrowed := true }
def StreamUnpacksUptoSaid : Prop := streamUnpacksUptoRow.holds Try.pinned (OpenSpec.upto streamUnpacksSpec)

/-- 'valiselaw09.StreamBack', WHERE WHAT IT READS IS OF BULK AT MOST 1048576: true; the input reads as it did. -/
def streamBackUptoRow : OpenClaim := { program := "ytdbnobeopgfhgaa", sum := "fe7bbc2e0da70d340f38ca9867afbdd366a926a6a83ae9c56df5bbc909ba3cde", func := "valise/valiselaw09.StreamBack", spec := "streamBack", apart := false, narrowed := true }
def StreamBackUptoSaid : Prop := streamBackUptoRow.holds Try.pinned (OpenSpec.upto streamBackSpec)

/-- 'valiselaw09.StreamLimits', WHERE WHAT IT READS IS OF BULK AT MOST 1048576: true; the input reads as it did. -/
def streamLimitsUptoRow : OpenClaim := { program := "ytdbnobeopgfhgaa", sum := "fe7bbc2e0da70d340f38ca9867afbdd366a926a6a83ae9c56df5bbc909ba3cde", func := "valise/valiselaw09.StreamLimits", spec := "streamLimits", apart := false, narrowed := true }
def StreamLimitsUptoSaid : Prop := streamLimitsUptoRow.holds Try.pinned (OpenSpec.upto streamLimitsSpec)

end Rows
end Go.Proofs.Ytdbnobeopgfhgaa
