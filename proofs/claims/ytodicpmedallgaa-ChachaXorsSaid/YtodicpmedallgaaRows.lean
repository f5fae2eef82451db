/-
  No cell of these rows narrows 'for every input' (looked for: loops, veiled, ifaces, maps, wideKeys, modest, calm, conditions, laid).
  DERIVED. THE GIVEN ROWS OF THIS SEAT. 12 by the template 'for every input the law returns true; each argument reads behind the call as it read before'; 0 by the template 'total and deterministic' (their statements: YtodicpmedallgaaTotals.lean).
  GIVEN WITH THE SEED: the statements are not yours to turn. If you find one false, say at which input.
  Laid BY PROGRAM, IN A SANDBOX (cutbox-rows.mjs): the forced cells as the released guide's own fill.sh prints them over the translation afb80e0b1fa38573… (all of the seat's roots in one cut). By AI agents, Wed Nov 11 2026. No macro, syntax, notation, axiom, sorry.
-/
import Derived.Test.YtodicpmedallgaaChecked
import GoSem.Claim
import GoSem.ClaimJoined
import GoSem.ClaimMapViews
import Derived.JoinedTies
import Derived.KernelRfl
namespace Go.Proofs.Ytodicpmedallgaa
/- THE CELL 'sum', in the pinned program and in every row, IS THE sha256 OF THE DUMP (.gsa) THAT YtodicpmedallgaaProg.lean LOADS. Nothing in Lean hashes anything: it is a label: what it is worth is what the hold of that sum in a sandbox is worth. -/
noncomputable def Try.pinned : Pinned := { name := "ytodicpmedallgaa", sum := "afb80e0b1fa38573afb4ff49a23eef5710c8223f0b5ea79d1d03b4b41a3804a2", checked := Try.checked }
namespace Rows
def none {H : Type} : Left H := { results := [], args := [] }

/-- 'valiselaw03.CrcSums': WHATEVER THE INPUT: true; the input reads as it did. -/
def crcSumsSpec : ChangeSpec := { name := "crcSums", fn := fun _ => fun
  | [d1, d2] => { results := [.lit (.bool true)], args := [d1, d2] }
  | _ => none }
def crcSumsRow : OpenClaim := { program := "ytodicpmedallgaa", sum := "afb80e0b1fa38573afb4ff49a23eef5710c8223f0b5ea79d1d03b4b41a3804a2", func := "valise/valiselaw03.CrcSums", spec := "crcSums", unfollowed := true, recurses := true, apart := false }
def CrcSumsSaid : Prop := crcSumsRow.holds Try.pinned (OpenSpec.ofChange crcSumsSpec)

/-- ITS FALSE NEIGHBOUR: 'it returns false'. Refute it at one input. -/
def crcSumsWrong : ChangeSpec := { name := "crcSums", fn := fun _ => fun
  | [d1, d2] => { results := [.lit (.bool false)], args := [d1, d2] }
  | _ => none }
def CrcSumsWrongFalsely : Prop := crcSumsRow.holds Try.pinned (OpenSpec.ofChange crcSumsWrong)

/-- 'valiselaw03.CrcParts': WHATEVER THE INPUT: true; the input reads as it did. -/
def crcPartsSpec : ChangeSpec := { name := "crcParts", fn := fun _ => fun
  | [d1, d2] => { results := [.lit (.bool true)], args := [d1, d2] }
  | _ => none }
def crcPartsRow : OpenClaim := { program := "ytodicpmedallgaa", sum := "afb80e0b1fa38573afb4ff49a23eef5710c8223f0b5ea79d1d03b4b41a3804a2", func := "valise/valiselaw03.CrcParts", spec := "crcParts", apart := false }
def CrcPartsSaid : Prop := crcPartsRow.holds Try.pinned (OpenSpec.ofChange crcPartsSpec)

/-- ITS FALSE NEIGHBOUR: 'it returns false'. Refute it at one input. -/
def crcPartsWrong : ChangeSpec := { name := "crcParts", fn := fun _ => fun
  | [d1, d2] => { results := [.lit (.bool false)], args := [d1, d2] }
  | _ => none }
def CrcPartsWrongFalsely : Prop := crcPartsRow.holds Try.pinned (OpenSpec.ofChange crcPartsWrong)

/-- 'valiselaw03.CrcBurst': WHATEVER THE INPUT: true; the input reads as it did. -/
def crcBurstSpec : ChangeSpec := { name := "crcBurst", fn := fun _ => fun
  | [d1, d2, d3] => { results := [.lit (.bool true)], args := [d1, d2, d3] }
  | _ => none }
def crcBurstRow : OpenClaim := { program := "ytodicpmedallgaa", sum := "afb80e0b1fa38573afb4ff49a23eef5710c8223f0b5ea79d1d03b4b41a3804a2", func := "valise/valiselaw03.CrcBurst", spec := "crcBurst", apart := false }
def CrcBurstSaid : Prop := crcBurstRow.holds Try.pinned (OpenSpec.ofChange crcBurstSpec)

/-- ITS FALSE NEIGHBOUR: 'it returns false'. Refute it at one input. -/
def crcBurstWrong : ChangeSpec := { name := "crcBurst", fn := fun _ => fun
  | [d1, d2, d3] => { results := [.lit (.bool false)], args := [d1, d2, d3] }
  | _ => none }
def CrcBurstWrongFalsely : Prop := crcBurstRow.holds Try.pinned (OpenSpec.ofChange crcBurstWrong)

/-- 'valiselaw03.CrcLinear': WHATEVER THE INPUT: true; the input reads as it did. -/
def crcLinearSpec : ChangeSpec := { name := "crcLinear", fn := fun _ => fun
  | [d1, d2, d3] => { results := [.lit (.bool true)], args := [d1, d2, d3] }
  | _ => none }
def crcLinearRow : OpenClaim := { program := "ytodicpmedallgaa", sum := "afb80e0b1fa38573afb4ff49a23eef5710c8223f0b5ea79d1d03b4b41a3804a2", func := "valise/valiselaw03.CrcLinear", spec := "crcLinear", apart := false }
def CrcLinearSaid : Prop := crcLinearRow.holds Try.pinned (OpenSpec.ofChange crcLinearSpec)

/-- ITS FALSE NEIGHBOUR: 'it returns false'. Refute it at one input. -/
def crcLinearWrong : ChangeSpec := { name := "crcLinear", fn := fun _ => fun
  | [d1, d2, d3] => { results := [.lit (.bool false)], args := [d1, d2, d3] }
  | _ => none }
def CrcLinearWrongFalsely : Prop := crcLinearRow.holds Try.pinned (OpenSpec.ofChange crcLinearWrong)

/-- 'valiselaw03.CrcAll': WHATEVER THE INPUT: true; the input reads as it did. -/
def crcAllSpec : ChangeSpec := { name := "crcAll", fn := fun _ => fun
  | [d] => { results := [.lit (.bool true)], args := [d] }
  | _ => none }
def crcAllRow : OpenClaim := { program := "ytodicpmedallgaa", sum := "afb80e0b1fa38573afb4ff49a23eef5710c8223f0b5ea79d1d03b4b41a3804a2", func := "valise/valiselaw03.CrcAll", spec := "crcAll", apart := false }
def CrcAllSaid : Prop := crcAllRow.holds Try.pinned (OpenSpec.ofChange crcAllSpec)

/-- ITS FALSE NEIGHBOUR: 'it returns false'. Refute it at one input. -/
def crcAllWrong : ChangeSpec := { name := "crcAll", fn := fun _ => fun
  | [d] => { results := [.lit (.bool false)], args := [d] }
  | _ => none }
def CrcAllWrongFalsely : Prop := crcAllRow.holds Try.pinned (OpenSpec.ofChange crcAllWrong)

/-- 'valiselaw26.ChachaBlocks': WHATEVER THE INPUT: true; the input reads as it did. -/
def chachaBlocksSpec : ChangeSpec := { name := "chachaBlocks", fn := fun _ => fun
  | [d1, d2, d3, d4] => { results := [.lit (.bool true)], args := [d1, d2, d3, d4] }
  | _ => none }
def chachaBlocksRow : OpenClaim := { program := "ytodicpmedallgaa", sum := "afb80e0b1fa38573afb4ff49a23eef5710c8223f0b5ea79d1d03b4b41a3804a2", func := "valise/valiselaw26.ChachaBlocks", spec := "chachaBlocks", apart := false }
def ChachaBlocksSaid : Prop := chachaBlocksRow.holds Try.pinned (OpenSpec.ofChange chachaBlocksSpec)

/-- ITS FALSE NEIGHBOUR: 'it returns false'. Refute it at one input. -/
def chachaBlocksWrong : ChangeSpec := { name := "chachaBlocks", fn := fun _ => fun
  | [d1, d2, d3, d4] => { results := [.lit (.bool false)], args := [d1, d2, d3, d4] }
  | _ => none }
def ChachaBlocksWrongFalsely : Prop := chachaBlocksRow.holds Try.pinned (OpenSpec.ofChange chachaBlocksWrong)

/-- 'valiselaw26.ChachaXors': WHATEVER THE INPUT: true; the input reads as it did. -/
def chachaXorsSpec : ChangeSpec := { name := "chachaXors", fn := fun _ => fun
  | [d1, d2, d3, d4] => { results := [.lit (.bool true)], args := [d1, d2, d3, d4] }
  | _ => none }
def chachaXorsRow : OpenClaim := { program := "ytodicpmedallgaa", sum := "afb80e0b1fa38573afb4ff49a23eef5710c8223f0b5ea79d1d03b4b41a3804a2", func := "valise/valiselaw26.ChachaXors", spec := "chachaXors", unfollowed := true, recurses := true, apart := false }
def ChachaXorsSaid : Prop := chachaXorsRow.holds Try.pinned (OpenSpec.ofChange chachaXorsSpec)

/-- ITS FALSE NEIGHBOUR: 'it returns false'. Refute it at one input. -/
def chachaXorsWrong : ChangeSpec := { name := "chachaXors", fn := fun _ => fun
  | [d1, d2, d3, d4] => { results := [.lit (.bool false)], args := [d1, d2, d3, d4] }
  | _ => none }
def ChachaXorsWrongFalsely : Prop := chachaXorsRow.holds Try.pinned (OpenSpec.ofChange chachaXorsWrong)

/-- 'valiselaw26.ChachaBack': WHATEVER THE INPUT: true; the input reads as it did. -/
def chachaBackSpec : ChangeSpec := { name := "chachaBack", fn := fun _ => fun
  | [d1, d2, d3, d4, d5] => { results := [.lit (.bool true)], args := [d1, d2, d3, d4, d5] }
  | _ => none }
def chachaBackRow : OpenClaim := { program := "ytodicpmedallgaa", sum := "afb80e0b1fa38573afb4ff49a23eef5710c8223f0b5ea79d1d03b4b41a3804a2", func := "valise/valiselaw26.ChachaBack", spec := "chachaBack", apart := false }
def ChachaBackSaid : Prop := chachaBackRow.holds Try.pinned (OpenSpec.ofChange chachaBackSpec)

/-- ITS FALSE NEIGHBOUR: 'it returns false'. Refute it at one input. -/
def chachaBackWrong : ChangeSpec := { name := "chachaBack", fn := fun _ => fun
  | [d1, d2, d3, d4, d5] => { results := [.lit (.bool false)], args := [d1, d2, d3, d4, d5] }
  | _ => none }
def ChachaBackWrongFalsely : Prop := chachaBackRow.holds Try.pinned (OpenSpec.ofChange chachaBackWrong)

/-- 'valiselaw12.LmsPlays': WHATEVER THE INPUT: true; the input reads as it did. -/
def lmsPlaysSpec : ChangeSpec := { name := "lmsPlays", fn := fun _ => fun
  | [d] => { results := [.lit (.bool true)], args := [d] }
  | _ => none }
def lmsPlaysRow : OpenClaim := { program := "ytodicpmedallgaa", sum := "afb80e0b1fa38573afb4ff49a23eef5710c8223f0b5ea79d1d03b4b41a3804a2", func := "valise/valiselaw12.LmsPlays", spec := "lmsPlays", apart := false }
def LmsPlaysSaid : Prop := lmsPlaysRow.holds Try.pinned (OpenSpec.ofChange lmsPlaysSpec)

/-- ITS FALSE NEIGHBOUR: 'it returns false'. Refute it at one input. -/
def lmsPlaysWrong : ChangeSpec := { name := "lmsPlays", fn := fun _ => fun
  | [d] => { results := [.lit (.bool false)], args := [d] }
  | _ => none }
def LmsPlaysWrongFalsely : Prop := lmsPlaysRow.holds Try.pinned (OpenSpec.ofChange lmsPlaysWrong)

/-- 'valiselaw12.LmsNil': WHATEVER THE INPUT: true; the input reads as it did. -/
def lmsNilSpec : ChangeSpec := { name := "lmsNil", fn := fun _ => fun
  | [d] => { results := [.lit (.bool true)], args := [d] }
  | _ => none }
def lmsNilRow : OpenClaim := { program := "ytodicpmedallgaa", sum := "afb80e0b1fa38573afb4ff49a23eef5710c8223f0b5ea79d1d03b4b41a3804a2", func := "valise/valiselaw12.LmsNil", spec := "lmsNil", apart := false }
def LmsNilSaid : Prop := lmsNilRow.holds Try.pinned (OpenSpec.ofChange lmsNilSpec)

/-- ITS FALSE NEIGHBOUR: 'it returns false'. Refute it at one input. -/
def lmsNilWrong : ChangeSpec := { name := "lmsNil", fn := fun _ => fun
  | [d] => { results := [.lit (.bool false)], args := [d] }
  | _ => none }
def LmsNilWrongFalsely : Prop := lmsNilRow.holds Try.pinned (OpenSpec.ofChange lmsNilWrong)

/-- 'valiselaw12.LmsLeaves': WHATEVER THE INPUT: true; the input reads as it did. -/
def lmsLeavesSpec : ChangeSpec := { name := "lmsLeaves", fn := fun _ => fun
  | [d] => { results := [.lit (.bool true)], args := [d] }
  | _ => none }
def lmsLeavesRow : OpenClaim := { program := "ytodicpmedallgaa", sum := "afb80e0b1fa38573afb4ff49a23eef5710c8223f0b5ea79d1d03b4b41a3804a2", func := "valise/valiselaw12.LmsLeaves", spec := "lmsLeaves", unfollowed := true, recurses := true, apart := false }
def LmsLeavesSaid : Prop := lmsLeavesRow.holds Try.pinned (OpenSpec.ofChange lmsLeavesSpec)

/-- ITS FALSE NEIGHBOUR: 'it returns false'. Refute it at one input. -/
def lmsLeavesWrong : ChangeSpec := { name := "lmsLeaves", fn := fun _ => fun
  | [d] => { results := [.lit (.bool false)], args := [d] }
  | _ => none }
def LmsLeavesWrongFalsely : Prop := lmsLeavesRow.holds Try.pinned (OpenSpec.ofChange lmsLeavesWrong)

/-- 'valiselaw12.LmsBack': WHATEVER THE INPUT: true; the input reads as it did. -/
def lmsBackSpec : ChangeSpec := { name := "lmsBack", fn := fun _ => fun
  | [d1, d2] => { results := [.lit (.bool true)], args := [d1, d2] }
  | _ => none }
def lmsBackRow : OpenClaim := { program := "ytodicpmedallgaa", sum := "afb80e0b1fa38573afb4ff49a23eef5710c8223f0b5ea79d1d03b4b41a3804a2", func := "valise/valiselaw12.LmsBack", spec := "lmsBack", unfollowed := true, recurses := true, apart := false }
def LmsBackSaid : Prop := lmsBackRow.holds Try.pinned (OpenSpec.ofChange lmsBackSpec)

/-- ITS FALSE NEIGHBOUR: 'it returns false'. Refute it at one input. -/
def lmsBackWrong : ChangeSpec := { name := "lmsBack", fn := fun _ => fun
  | [d1, d2] => { results := [.lit (.bool false)], args := [d1, d2] }
  | _ => none }
def LmsBackWrongFalsely : Prop := lmsBackRow.holds Try.pinned (OpenSpec.ofChange lmsBackWrong)

/- THE SECOND FORM. 'bulk': how many values and letters a reading holds, each counted each time it is reached (what is shared counts as often as it is met; a slice's spare places count too). A statement '..UptoSaid' is the law's where the arguments, and the package variables that the reading takes, are together of bulk at most 1048576: NARROWER than '..Said'. Prove '..Said' where nothing that the law and all that it calls make is longer than what came in: it says more and counts as full. Else prove '..UptoSaid'. A law counts once. -/
mutual
def uptoBulk {H : Type} : DataW H → Nat
  | .lit (.string bytes) => bytes.length + 1
  | .lit _ => 1
  | .nil => 1
  | .ptr d => uptoBulk d + 1
  | .slice elems spare => uptoBulkAll elems + uptoBulkAll spare + 1
  | .agg parts => uptoBulkAll parts + 1
  | .iface _ d => uptoBulk d + 1
  | .map entries => uptoBulkEntries entries + 1
  | .held _ => 1
def uptoBulkAll {H : Type} : List (DataW H) → Nat
  | [] => 0
  | d :: r => uptoBulk d + uptoBulkAll r
def uptoBulkEntries {H : Type} : List (Lit × DataW H) → Nat
  | [] => 0
  | x :: r => uptoBulkEntry x + uptoBulkEntries r
def uptoBulkEntry {H : Type} : Lit × DataW H → Nat
  | (.string bytes, d) => bytes.length + uptoBulk d + 1
  | (_, d) => uptoBulk d + 1
 end
def uptoSmall : (H : Type) → List (DataW H) → Bool := fun _ ds => decide (uptoBulkAll ds ≤ 1048576)
def OpenSpec.upto (s : _root_.Go.ChangeSpec) : _root_.Go.OpenSpec := { _root_.Go.OpenSpec.ofChange s with cond := some uptoSmall }

/-- 'valiselaw03.CrcSums', WHERE WHAT IT READS IS OF BULK AT MOST 1048576: true; the input reads as it did. -/
def crcSumsUptoRow : OpenClaim := { program := "ytodicpmedallgaa", sum := "afb80e0b1fa38573afb4ff49a23eef5710c8223f0b5ea79d1d03b4b41a3804a2", func := "valise/valiselaw03.CrcSums", spec := "crcSums", unfollowed := true, recurses := true, apart := false, narrowed := true }
def CrcSumsUptoSaid : Prop := crcSumsUptoRow.holds Try.pinned (OpenSpec.upto crcSumsSpec)

/-- 'valiselaw03.CrcParts', WHERE WHAT IT READS IS OF BULK AT MOST 1048576: true; the input reads as it did. -/
def crcPartsUptoRow : OpenClaim := { program := "ytodicpmedallgaa", sum := "afb80e0b1fa38573afb4ff49a23eef5710c8223f0b5ea79d1d03b4b41a3804a2", func := "valise/valiselaw03.CrcParts", spec := "crcParts", apart := false, narrowed := true }
def CrcPartsUptoSaid : Prop := crcPartsUptoRow.holds Try.pinned (OpenSpec.upto crcPartsSpec)

/-- 'valiselaw03.CrcBurst', WHERE WHAT IT READS IS OF BULK AT MOST 1048576: true; the input reads as it did. -/
def crcBurstUptoRow : OpenClaim := { program := "ytodicpmedallgaa", sum := "afb80e0b1fa38573afb4ff49a23eef5710c8223f0b5ea79d1d03b4b41a3804a2", func := "valise/valiselaw03.CrcBurst", spec := "crcBurst", apart := false, narrowed := true }
def CrcBurstUptoSaid : Prop := crcBurstUptoRow.holds Try.pinned (OpenSpec.upto crcBurstSpec)

/-- 'valiselaw03.CrcLinear', WHERE WHAT IT READS IS OF BULK AT MOST 1048576: true; the input reads as it did. -/
def crcLinearUptoRow : OpenClaim := { program := "ytodicpmedallgaa", sum := "afb80e0b1fa38573afb4ff49a23eef5710c8223f0b5ea79d1d03b4b41a3804a2", func := "valise/valiselaw03.CrcLinear", spec := "crcLinear", apart := false, narrowed := true }
def CrcLinearUptoSaid : Prop := crcLinearUptoRow.holds Try.pinned (OpenSpec.upto crcLinearSpec)

/-- 'valiselaw03.CrcAll', WHERE WHAT IT READS IS OF BULK AT MOST 1048576: true; the input reads as it did. -/
def crcAllUptoRow : OpenClaim := { program := "ytodicpmedallgaa", sum := "afb80e0b1fa38573afb4ff49a23eef5710c8223f0b5ea79d1d03b4b41a3804a2", func := "valise/valiselaw03.CrcAll", spec := "crcAll", apart := false, narrowed := true }
def CrcAllUptoSaid : Prop := crcAllUptoRow.holds Try.pinned (OpenSpec.upto crcAllSpec)

/-- 'valiselaw26.ChachaBlocks', WHERE WHAT IT READS IS OF BULK AT MOST 1048576: true; the input reads as it did. -/
def chachaBlocksUptoRow : OpenClaim := { program := "ytodicpmedallgaa", sum := "afb80e0b1fa38573afb4ff49a23eef5710c8223f0b5ea79d1d03b4b41a3804a2", func := "valise/valiselaw26.ChachaBlocks", spec := "chachaBlocks", apart := false, narrowed := true }
def ChachaBlocksUptoSaid : Prop := chachaBlocksUptoRow.holds Try.pinned (OpenSpec.upto chachaBlocksSpec)

/-- 'valiselaw26.ChachaXors', WHERE WHAT IT READS IS OF BULK AT MOST 1048576: true; the input reads as it did. -/
def chachaXorsUptoRow : OpenClaim := { program := "ytodicpmedallgaa", sum := "afb80e0b1fa38573afb4ff49a23eef5710c8223f0b5ea79d1d03b4b41a3804a2", func := "valise/valiselaw26.ChachaXors", spec := "chachaXors", unfollowed := true, recurses := true, apart := false, narrowed := true }
def ChachaXorsUptoSaid : Prop := chachaXorsUptoRow.holds Try.pinned (OpenSpec.upto chachaXorsSpec)

/-- 'valiselaw26.ChachaBack', WHERE WHAT IT READS IS OF BULK AT MOST 1048576: true; the input reads as it did. -/
def chachaBackUptoRow : OpenClaim := { program := "ytodicpmedallgaa", sum := "afb80e0b1fa38573afb4ff49a23eef5710c8223f0b5ea79d1d03b4b41a3804a2", func := "valise/valiselaw26.ChachaBack", spec := "chachaBack", apart := false, narrowed := true }
def ChachaBackUptoSaid : Prop := chachaBackUptoRow.holds Try.pinned (OpenSpec.upto chachaBackSpec)

/-- 'valiselaw12.LmsPlays', WHERE WHAT IT READS IS OF BULK AT MOST 1048576: true; the input reads as it did. -/
def lmsPlaysUptoRow : OpenClaim := { program := "ytodicpmedallgaa", sum := "afb80e0b1fa38573afb4ff49a23eef5710c8223f0b5ea79d1d03b4b41a3804a2", func := "valise/valiselaw12.LmsPlays", spec := "lmsPlays", apart := false, narrowed := true }
def LmsPlaysUptoSaid : Prop := lmsPlaysUptoRow.holds Try.pinned (OpenSpec.upto lmsPlaysSpec)

/-- 'valiselaw12.LmsNil', WHERE WHAT IT READS IS OF BULK AT MOST 1048576: true; the input reads as it did. -/
def lmsNilUptoRow : OpenClaim := { program := "ytodicpmedallgaa", sum := "afb80e0b1fa38573afb4ff49a23eef5710c8223f0b5ea79d1d03b4b41a3804a2", func := "valise/valiselaw12.LmsNil", spec := "lmsNil", apart := false, narrowed := true }
def LmsNilUptoSaid : Prop := lmsNilUptoRow.holds Try.pinned (OpenSpec.upto lmsNilSpec)

/-- 'valiselaw12.LmsLeaves', WHERE WHAT IT READS IS OF BULK AT MOST 1048576: true; the input reads as it did. -/
def lmsLeavesUptoRow : OpenClaim := { program := "ytodicpmedallgaa", sum := "afb80e0b1fa38573afb4ff49a23eef5710c8223f0b5ea79d1d03b4b41a3804a2", func := "valise/valiselaw12.LmsLeaves", spec := "lmsLeaves", unfollowed := true, recurses := true, apart := false, narrowed := true }
def LmsLeavesUptoSaid : Prop := lmsLeavesUptoRow.holds Try.pinned (OpenSpec.upto lmsLeavesSpec)

/-- 'valiselaw12.LmsBack', WHERE WHAT IT READS IS OF BULK AT MOST 1048576: true; the input reads as it did. -/
def lmsBackUptoRow : OpenClaim := { program := "ytodicpmedallgaa", sum := "afb80e0b1fa38573afb4ff49a23eef5710c8223f0b5ea79d1d03b4b41a3804a2", func := "valise/valiselaw12.LmsBack", spec := "lmsBack", unfollowed := true, recurses := true, apart := false, narrowed := true }
def LmsBackUptoSaid : Prop := lmsBackUptoRow.holds Try.pinned (OpenSpec.upto lmsBackSpec)

end Rows
end Go.Proofs.Ytodicpmedallgaa
