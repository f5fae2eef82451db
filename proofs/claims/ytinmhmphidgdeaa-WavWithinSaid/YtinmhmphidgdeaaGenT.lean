/- Go functions as predicate transformers, written by a program of this session (gen.py), with their soundness. -/
import Derived.Test.YtinmhmphidgdeaaVmH
import Derived.Test.YtinmhmphidgdeaaProg
set_option linter.unusedVariables false
set_option linter.unusedSimpArgs false
set_option maxRecDepth 100000
namespace Go.Proofs.Ytinmhmphidgdeaa.G
open Go Go.Proofs.Ytinmhmphidgdeaa.Vm
def tab : Tab := [
  (3, ⟨.int .i64, 1, 8, [(Value.int .i64 0)]⟩),
  (4, ⟨.bool, 1, 1, [(Value.bool false)]⟩),
  (5, ⟨.int .u8, 1, 1, [(Value.int .u8 0)]⟩),
  (9, ⟨.str, 1, 16, [(Value.string ByteArray.empty)]⟩),
  (22, ⟨.slice 5, 1, 24, [(Value.slice none 0 0)]⟩),
  (26, ⟨.struct [(0, 3), (1, 3), (2, 3), (3, 3)], 4, 32, [(Value.int .i64 0), (Value.int .i64 0), (Value.int .i64 0), (Value.int .i64 0)]⟩),
  (34, ⟨.int .u64, 1, 8, [(Value.int .u64 0)]⟩),
  (37, ⟨.slice 9, 1, 24, [(Value.slice none 0 0)]⟩),
  (38, ⟨.slice 22, 1, 24, [(Value.slice none 0 0)]⟩),
  (40, ⟨.int .u64, 1, 8, [(Value.int .u64 0)]⟩),
  (42, ⟨.slice 49, 1, 24, [(Value.slice none 0 0)]⟩),
  (43, ⟨.ptr, 1, 8, [(Value.pointer none)]⟩),
  (45, ⟨.ptr, 1, 8, [(Value.pointer none)]⟩),
  (49, ⟨.struct [(0, 3), (1, 3)], 2, 16, [(Value.int .i64 0), (Value.int .i64 0)]⟩),
  (54, ⟨.ptr, 1, 8, [(Value.pointer none)]⟩),
  (58, ⟨.slice 3, 1, 24, [(Value.slice none 0 0)]⟩),
  (60, ⟨.ptr, 1, 8, [(Value.pointer none)]⟩),
  (64, ⟨.ptr, 1, 8, [(Value.pointer none)]⟩),
  (65, ⟨.ptr, 1, 8, [(Value.pointer none)]⟩),
  (68, ⟨.struct [(0, 65), (1, 3)], 2, 16, [(Value.pointer none), (Value.int .i64 0)]⟩),
  (76, ⟨.struct [(0, 22)], 1, 24, [(Value.slice none 0 0)]⟩),
  (78, ⟨.struct [(0, 76)], 1, 24, [(Value.slice none 0 0)]⟩),
  (81, ⟨.int .u32, 1, 4, [(Value.int .u32 0)]⟩),
  (83, ⟨.struct [(0, 81), (1, 81)], 2, 8, [(Value.int .u32 0), (Value.int .u32 0)]⟩),
  (86, ⟨.struct [(0, 83), (2, 22)], 3, 32, [(Value.int .u32 0), (Value.int .u32 0), (Value.slice none 0 0)]⟩),
  (88, ⟨.struct [(0, 81), (1, 81)], 2, 8, [(Value.int .u32 0), (Value.int .u32 0)]⟩),
  (91, ⟨.struct [(0, 88), (2, 22)], 3, 32, [(Value.int .u32 0), (Value.int .u32 0), (Value.slice none 0 0)]⟩),
  (98, ⟨.struct [(0, 83), (2, 81), (3, 22), (4, 3)], 5, 48, [(Value.int .u32 0), (Value.int .u32 0), (Value.int .u32 0), (Value.slice none 0 0), (Value.int .i64 0)]⟩),
  (100, ⟨.struct [(0, 88), (2, 81), (3, 22), (4, 3)], 5, 48, [(Value.int .u32 0), (Value.int .u32 0), (Value.int .u32 0), (Value.slice none 0 0), (Value.int .i64 0)]⟩),
  (101, ⟨.int .i64, 1, 8, [(Value.int .i64 0)]⟩),
  (103, ⟨.struct [(0, 22), (1, 3), (2, 101)], 3, 40, [(Value.slice none 0 0), (Value.int .i64 0), (Value.int .i64 0)]⟩),
  (104, ⟨.ptr, 1, 8, [(Value.pointer none)]⟩),
  (107, ⟨.func, 1, 8, [Value.nilFunc]⟩),
  (108, ⟨.ptr, 1, 8, [(Value.pointer none)]⟩),
  (109, ⟨.ptr, 1, 8, [(Value.pointer none)]⟩),
  (111, ⟨.struct [(0, 22), (1, 3), (2, 101)], 3, 40, [(Value.slice none 0 0), (Value.int .i64 0), (Value.int .i64 0)]⟩),
  (112, ⟨.ptr, 1, 8, [(Value.pointer none)]⟩)]
theorem tab_ok : TOk Try.prog tab := tok_of _ _ (by kernel_rfl) (by kernel_rfl)
end Go.Proofs.Ytinmhmphidgdeaa.G
