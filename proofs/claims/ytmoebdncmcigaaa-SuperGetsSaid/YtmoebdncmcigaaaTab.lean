/-
  The types of the program at hand, and which of its functions can be called.
-/
import Derived.Test.YtmoebdncmcigaaaSx10
import Derived.Test.YtmoebdncmcigaaaProg
namespace Go.Proofs.Ytmoebdncmcigaaa.Sx
open Go
set_option maxRecDepth 100000
def ti5 : TI := ⟨.int .u8, 1, 1, .int .u8 0⟩
def ti3 : TI := ⟨.int .i64, 1, 8, .int .i64 0⟩
def ti31 : TI := ⟨.slice 5, 1, 24, .slice none 0 0⟩
def ti58 : TI := ⟨.int .u64, 1, 8, .int .u64 0⟩
def ti24 : TI := ⟨.int .u32, 1, 4, .int .u32 0⟩
def ti4 : TI := ⟨.bool, 1, 1, .bool false⟩
def ti9 : TI := ⟨.string, 1, 16, .string ⟨#[]⟩⟩
def ti2 : TI := ⟨.int .i64, 1, 8, .int .i64 0⟩
def ti21 : TI := ⟨.int .i32, 1, 4, .int .i32 0⟩
def ti22 : TI := ⟨.struct [(0, 3), (1, 3)], 2, 16, .agg #[.int .i64 0, .int .i64 0]⟩
def ti23 : TI := ⟨.struct [(0, 3), (1, 3)], 2, 16, .agg #[.int .i64 0, .int .i64 0]⟩
def ti25 : TI := ⟨.array 2 3, 2, 16, .agg #[.int .i64 0, .int .i64 0]⟩
def ti32 : TI := ⟨.int .i64, 1, 8, .int .i64 0⟩
def ti42 : TI := ⟨.ptr 56, 1, 8, .pointer none⟩
def ti45 : TI := ⟨.int .u16, 1, 2, .int .u16 0⟩
def ti49 : TI := ⟨.int .u64, 1, 8, .int .u64 0⟩
def ti55 : TI := ⟨.struct [(0, 31), (1, 32)], 2, 32, .agg #[.slice none 0 0, .int .i64 0]⟩
def ti56 : TI := ⟨.struct [(0, 31), (1, 32)], 2, 32, .agg #[.slice none 0 0, .int .i64 0]⟩
def ti61 : TI := ⟨.slice 31, 1, 24, .slice none 0 0⟩
def ti65 : TI := ⟨.struct [(0, 17), (1, 17), (2, 17), (3, 9)], 4, 40, .agg #[.pointer none, .pointer none, .pointer none, .string ⟨#[]⟩]⟩
def ti67 : TI := ⟨.array 0 16, 0, 0, .agg #[]⟩
def ti68 : TI := ⟨.struct [(0, 67)], 0, 0, .agg #[]⟩
def ti74 : TI := ⟨.ptr 5, 1, 8, .pointer none⟩
def ti77 : TI := ⟨.struct [(0, 12), (1, 12), (2, 24), (3, 71), (4, 5), (5, 5), (6, 72), (7, 73), (8, 74), (9, 75), (10, 76)], 11, 48, .agg #[.int .u64 0, .int .u64 0, .int .u32 0, .int .u8 0, .int .u8 0, .int .u8 0, .int .u8 0, .nilFunc, .pointer none, .int .i32 0, .int .i32 0]⟩
def tab : Tab := [(5, ti5), (3, ti3), (31, ti31), (58, ti58), (24, ti24), (4, ti4), (9, ti9), (2, ti2), (21, ti21), (22, ti22), (23, ti23), (25, ti25), (32, ti32), (42, ti42), (45, ti45), (49, ti49), (55, ti55), (56, ti56), (61, ti61), (65, ti65), (67, ti67), (68, ti68), (74, ti74), (77, ti77)]
theorem tabOk : TabOk Try.prog tab :=
  .cons (by kernel_rfl) (by kernel_rfl) <|
  .cons (by kernel_rfl) (by kernel_rfl) <|
  .cons (by kernel_rfl) (by kernel_rfl) <|
  .cons (by kernel_rfl) (by kernel_rfl) <|
  .cons (by kernel_rfl) (by kernel_rfl) <|
  .cons (by kernel_rfl) (by kernel_rfl) <|
  .cons (by kernel_rfl) (by kernel_rfl) <|
  .cons (by kernel_rfl) (by kernel_rfl) <|
  .cons (by kernel_rfl) (by kernel_rfl) <|
  .cons (by kernel_rfl) (by kernel_rfl) <|
  .cons (by kernel_rfl) (by kernel_rfl) <|
  .cons (by kernel_rfl) (by kernel_rfl) <|
  .cons (by kernel_rfl) (by kernel_rfl) <|
  .cons (by kernel_rfl) (by kernel_rfl) <|
  .cons (by kernel_rfl) (by kernel_rfl) <|
  .cons (by kernel_rfl) (by kernel_rfl) <|
  .cons (by kernel_rfl) (by kernel_rfl) <|
  .cons (by kernel_rfl) (by kernel_rfl) <|
  .cons (by kernel_rfl) (by kernel_rfl) <|
  .cons (by kernel_rfl) (by kernel_rfl) <|
  .cons (by kernel_rfl) (by kernel_rfl) <|
  .cons (by kernel_rfl) (by kernel_rfl) <|
  .cons (by kernel_rfl) (by kernel_rfl) <|
  .cons (by kernel_rfl) (by kernel_rfl) <|
  .nil _
theorem fnsOk : Fns Try.prog 3 36 := .of (by kernel_rfl)
noncomputable abbrev cx : Cx := ⟨Try.prog, tab, 3, 36⟩
theorem cxOk : cx.Ok := ⟨tabOk, fnsOk, by kernel_rfl⟩
end Go.Proofs.Ytmoebdncmcigaaa.Sx
