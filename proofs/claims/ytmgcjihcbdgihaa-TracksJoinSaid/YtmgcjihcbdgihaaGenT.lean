/- Go functions as predicate transformers, written by a program of this session (gen.py), with their soundness. -/
import Derived.Test.YtmgcjihcbdgihaaVmH
import Derived.Test.YtmgcjihcbdgihaaProg
set_option linter.unusedVariables false
set_option linter.unusedSimpArgs false
set_option maxRecDepth 100000
namespace Go.Proofs.Ytmgcjihcbdgihaa.G
open Go Go.Proofs.Ytmgcjihcbdgihaa.Vm
def tab : Tab := [
  (2, ⟨.int .i64, 1, 8, [(Value.int .i64 0)]⟩),
  (3, ⟨.int .i64, 1, 8, [(Value.int .i64 0)]⟩),
  (4, ⟨.bool, 1, 1, [(Value.bool false)]⟩),
  (5, ⟨.int .u8, 1, 1, [(Value.int .u8 0)]⟩),
  (9, ⟨.str, 1, 16, [(Value.string ByteArray.empty)]⟩),
  (21, ⟨.int .i32, 1, 4, [(Value.int .i32 0)]⟩),
  (22, ⟨.slice 5, 1, 24, [(Value.slice none 0 0)]⟩),
  (26, ⟨.int .u64, 1, 8, [(Value.int .u64 0)]⟩),
  (32, ⟨.slice 38, 1, 24, [(Value.slice none 0 0)]⟩),
  (33, ⟨.int .i64, 1, 8, [(Value.int .i64 0)]⟩),
  (38, ⟨.slice 21, 1, 24, [(Value.slice none 0 0)]⟩),
  (41, ⟨.func, 1, 8, [Value.nilFunc]⟩),
  (51, ⟨.int .u64, 1, 8, [(Value.int .u64 0)]⟩),
  (56, ⟨.int .i16, 1, 2, [(Value.int .i16 0)]⟩),
  (57, ⟨.int .u16, 1, 2, [(Value.int .u16 0)]⟩),
  (60, ⟨.func, 1, 8, [Value.nilFunc]⟩),
  (64, ⟨.func, 1, 8, [Value.nilFunc]⟩)]
theorem tab_ok : TOk Try.prog tab := tok_of _ _ (by kernel_rfl) (by kernel_rfl)
end Go.Proofs.Ytmgcjihcbdgihaa.G
