/- Go functions as predicate transformers, written by a program of this session (gen.py), with their soundness. -/
import Derived.Test.YtplepdjcgojagaaVmH
import Derived.Test.YtplepdjcgojagaaProg
set_option linter.unusedVariables false
set_option linter.unusedSimpArgs false
set_option maxRecDepth 100000
namespace Go.Proofs.Ytplepdjcgojagaa.G
open Go Go.Proofs.Ytplepdjcgojagaa.Vm
def tab : Tab := [
  (2, ⟨.int .i64, 1, 8, [(Value.int .i64 0)]⟩),
  (3, ⟨.int .i64, 1, 8, [(Value.int .i64 0)]⟩),
  (4, ⟨.bool, 1, 1, [(Value.bool false)]⟩),
  (22, ⟨.int .u16, 1, 2, [(Value.int .u16 0)]⟩),
  (29, ⟨.slice 40, 1, 24, [(Value.slice none 0 0)]⟩),
  (30, ⟨.slice 3, 1, 24, [(Value.slice none 0 0)]⟩),
  (31, ⟨.ptr, 1, 8, [(Value.pointer none)]⟩),
  (33, ⟨.ptr, 1, 8, [(Value.pointer none)]⟩),
  (36, ⟨.slice 22, 1, 24, [(Value.slice none 0 0)]⟩),
  (38, ⟨.struct [(0, 36)], 1, 24, [(Value.slice none 0 0)]⟩),
  (40, ⟨.struct [(0, 3), (1, 3), (2, 3)], 3, 24, [(Value.int .i64 0), (Value.int .i64 0), (Value.int .i64 0)]⟩),
  (45, ⟨.func, 1, 8, [Value.nilFunc]⟩),
  (46, ⟨.int .u64, 1, 8, [(Value.int .u64 0)]⟩),
  (48, ⟨.ptr, 1, 8, [(Value.pointer none)]⟩),
  (53, ⟨.slice 57, 1, 24, [(Value.slice none 0 0)]⟩),
  (54, ⟨.ptr, 1, 8, [(Value.pointer none)]⟩),
  (57, ⟨.struct [(0, 3), (1, 3), (2, 30)], 3, 40, [(Value.int .i64 0), (Value.int .i64 0), (Value.slice none 0 0)]⟩),
  (62, ⟨.slice 30, 1, 24, [(Value.slice none 0 0)]⟩),
  (64, ⟨.struct [(0, 62), (1, 30), (2, 3), (3, 3), (4, 4)], 5, 72, [(Value.slice none 0 0), (Value.slice none 0 0), (Value.int .i64 0), (Value.int .i64 0), (Value.bool false)]⟩),
  (68, ⟨.struct [(0, 36)], 1, 24, [(Value.slice none 0 0)]⟩),
  (70, ⟨.struct [(0, 68)], 1, 24, [(Value.slice none 0 0)]⟩),
  (73, ⟨.slice 74, 1, 24, [(Value.slice none 0 0)]⟩),
  (74, ⟨.arr 4 3, 4, 32, [(Value.int .i64 0), (Value.int .i64 0), (Value.int .i64 0), (Value.int .i64 0)]⟩),
  (76, ⟨.struct [(0, 4), (1, 3), (2, 74), (6, 3)], 7, 56, [(Value.bool false), (Value.int .i64 0), (Value.int .i64 0), (Value.int .i64 0), (Value.int .i64 0), (Value.int .i64 0), (Value.int .i64 0)]⟩),
  (78, ⟨.struct [(0, 76), (7, 73)], 8, 80, [(Value.bool false), (Value.int .i64 0), (Value.int .i64 0), (Value.int .i64 0), (Value.int .i64 0), (Value.int .i64 0), (Value.int .i64 0), (Value.slice none 0 0)]⟩),
  (81, ⟨.ptr, 1, 8, [(Value.pointer none)]⟩)]
theorem tab_ok : TOk Try.prog tab := tok_of _ _ (by kernel_rfl) (by kernel_rfl)
end Go.Proofs.Ytplepdjcgojagaa.G
