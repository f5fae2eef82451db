/- Go functions as predicate transformers, written by a program of this session (gen.py), with their soundness. -/
import Derived.Test.YtodicpmedallgaaVmH
import Derived.Test.YtodicpmedallgaaProg
set_option linter.unusedVariables false
set_option linter.unusedSimpArgs false
set_option maxRecDepth 100000
namespace Go.Proofs.Ytodicpmedallgaa.G
open Go Go.Proofs.Ytodicpmedallgaa.Vm
def tab : Tab := [
  (2, ⟨.int .i64, 1, 8, [(Value.int .i64 0)]⟩),
  (3, ⟨.int .i64, 1, 8, [(Value.int .i64 0)]⟩),
  (4, ⟨.bool, 1, 1, [(Value.bool false)]⟩),
  (5, ⟨.int .u8, 1, 1, [(Value.int .u8 0)]⟩),
  (9, ⟨.str, 1, 16, [(Value.string ByteArray.empty)]⟩),
  (21, ⟨.int .i32, 1, 4, [(Value.int .i32 0)]⟩),
  (22, ⟨.slice 5, 1, 24, [(Value.slice none 0 0)]⟩),
  (23, ⟨.int .u32, 1, 4, [(Value.int .u32 0)]⟩),
  (32, ⟨.int .u64, 1, 8, [(Value.int .u64 0)]⟩),
  (35, ⟨.slice 22, 1, 24, [(Value.slice none 0 0)]⟩),
  (37, ⟨.arr 256 23, 256, 1024, (List.replicate 256 (Value.int .u32 0))⟩),
  (40, ⟨.arr 32 5, 32, 32, (List.replicate 32 (Value.int .u8 0))⟩),
  (41, ⟨.arr 12 5, 12, 12, (List.replicate 12 (Value.int .u8 0))⟩),
  (42, ⟨.arr 4 23, 4, 16, [(Value.int .u32 0), (Value.int .u32 0), (Value.int .u32 0), (Value.int .u32 0)]⟩),
  (45, ⟨.arr 64 5, 64, 64, (List.replicate 64 (Value.int .u8 0))⟩),
  (51, ⟨.slice 21, 1, 24, [(Value.slice none 0 0)]⟩),
  (52, ⟨.ptr, 1, 8, [(Value.pointer none)]⟩),
  (54, ⟨.ptr, 1, 8, [(Value.pointer none)]⟩),
  (55, ⟨.arr 8 21, 8, 32, (List.replicate 8 (Value.int .i32 0))⟩),
  (57, ⟨.struct [(0, 55), (8, 55)], 16, 64, [(Value.int .i32 0), (Value.int .i32 0), (Value.int .i32 0), (Value.int .i32 0), (Value.int .i32 0), (Value.int .i32 0), (Value.int .i32 0), (Value.int .i32 0), (Value.int .i32 0), (Value.int .i32 0), (Value.int .i32 0), (Value.int .i32 0), (Value.int .i32 0), (Value.int .i32 0), (Value.int .i32 0), (Value.int .i32 0)]⟩),
  (69, ⟨.arr 16 23, 16, 64, (List.replicate 16 (Value.int .u32 0))⟩),
  (70, ⟨.arr 16 23, 16, 64, (List.replicate 16 (Value.int .u32 0))⟩),
  (72, ⟨.arr 8 2, 8, 64, (List.replicate 8 (Value.int .i64 0))⟩),
  (74, ⟨.struct [(0, 72), (8, 55)], 16, 96, [(Value.int .i64 0), (Value.int .i64 0), (Value.int .i64 0), (Value.int .i64 0), (Value.int .i64 0), (Value.int .i64 0), (Value.int .i64 0), (Value.int .i64 0), (Value.int .i32 0), (Value.int .i32 0), (Value.int .i32 0), (Value.int .i32 0), (Value.int .i32 0), (Value.int .i32 0), (Value.int .i32 0), (Value.int .i32 0)]⟩),
  (76, ⟨.struct [(0, 74)], 16, 96, [(Value.int .i64 0), (Value.int .i64 0), (Value.int .i64 0), (Value.int .i64 0), (Value.int .i64 0), (Value.int .i64 0), (Value.int .i64 0), (Value.int .i64 0), (Value.int .i32 0), (Value.int .i32 0), (Value.int .i32 0), (Value.int .i32 0), (Value.int .i32 0), (Value.int .i32 0), (Value.int .i32 0), (Value.int .i32 0)]⟩),
  (80, ⟨.func, 1, 8, [Value.nilFunc]⟩),
  (82, ⟨.func, 1, 8, [Value.nilFunc]⟩),
  (83, ⟨.ptr, 1, 8, [(Value.pointer none)]⟩)]
theorem tab_ok : TOk Try.prog tab := tok_of _ _ (by kernel_rfl) (by kernel_rfl)
end Go.Proofs.Ytodicpmedallgaa.G
