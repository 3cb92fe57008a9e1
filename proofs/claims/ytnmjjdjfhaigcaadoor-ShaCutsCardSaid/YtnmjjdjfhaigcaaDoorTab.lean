/-
  The types of the program at hand, and which of its functions can be called.
-/
import Derived.Test.YtnmjjdjfhaigcaaDoorSxA
import Derived.Test.YtnmjjdjfhaigcaaDoorProg
namespace Go.Proofs.YtnmjjdjfhaigcaaDoor.Sx
open Go
set_option maxRecDepth 100000
def ti5 : TI := ⟨.int .u8, 1, 1, .int .u8 0⟩
def ti3 : TI := ⟨.int .i64, 1, 8, .int .i64 0⟩
def ti23 : TI := ⟨.slice 5, 1, 24, .slice none 0 0⟩
def ti49 : TI := ⟨.int .u64, 1, 8, .int .u64 0⟩
def ti50 : TI := ⟨.int .u32, 1, 4, .int .u32 0⟩
def ti4 : TI := ⟨.bool, 1, 1, .bool false⟩
def ti9 : TI := ⟨.string, 1, 16, .string ⟨#[]⟩⟩
def ti2 : TI := ⟨.int .i64, 1, 8, .int .i64 0⟩
def ti21 : TI := ⟨.int .i32, 1, 4, .int .i32 0⟩
def ti22 : TI := ⟨.slice 23, 1, 24, .slice none 0 0⟩
def ti25 : TI := ⟨.array 32 5, 32, 32, .agg #[.int .u8 0, .int .u8 0, .int .u8 0, .int .u8 0, .int .u8 0, .int .u8 0, .int .u8 0, .int .u8 0, .int .u8 0, .int .u8 0, .int .u8 0, .int .u8 0, .int .u8 0, .int .u8 0, .int .u8 0, .int .u8 0, .int .u8 0, .int .u8 0, .int .u8 0, .int .u8 0, .int .u8 0, .int .u8 0, .int .u8 0, .int .u8 0, .int .u8 0, .int .u8 0, .int .u8 0, .int .u8 0, .int .u8 0, .int .u8 0, .int .u8 0, .int .u8 0]⟩
def ti26 : TI := ⟨.array 32 5, 32, 32, .agg #[.int .u8 0, .int .u8 0, .int .u8 0, .int .u8 0, .int .u8 0, .int .u8 0, .int .u8 0, .int .u8 0, .int .u8 0, .int .u8 0, .int .u8 0, .int .u8 0, .int .u8 0, .int .u8 0, .int .u8 0, .int .u8 0, .int .u8 0, .int .u8 0, .int .u8 0, .int .u8 0, .int .u8 0, .int .u8 0, .int .u8 0, .int .u8 0, .int .u8 0, .int .u8 0, .int .u8 0, .int .u8 0, .int .u8 0, .int .u8 0, .int .u8 0, .int .u8 0]⟩
def ti33 : TI := ⟨.int .u16, 1, 2, .int .u16 0⟩
def ti34 : TI := ⟨.ptr 57, 1, 8, .pointer none⟩
def ti36 : TI := ⟨.int .i64, 1, 8, .int .i64 0⟩
def ti51 : TI := ⟨.array 8 50, 8, 32, .agg #[.int .u32 0, .int .u32 0, .int .u32 0, .int .u32 0, .int .u32 0, .int .u32 0, .int .u32 0, .int .u32 0]⟩
def ti53 : TI := ⟨.int .u64, 1, 8, .int .u64 0⟩
def ti54 : TI := ⟨.array 8 50, 8, 32, .agg #[.int .u32 0, .int .u32 0, .int .u32 0, .int .u32 0, .int .u32 0, .int .u32 0, .int .u32 0, .int .u32 0]⟩
def ti56 : TI := ⟨.struct [(0, 54), (8, 23), (9, 3)], 10, 64, .agg #[.int .u32 0, .int .u32 0, .int .u32 0, .int .u32 0, .int .u32 0, .int .u32 0, .int .u32 0, .int .u32 0, .slice none 0 0, .int .i64 0]⟩
def ti57 : TI := ⟨.struct [(0, 54), (8, 23), (9, 3)], 10, 64, .agg #[.int .u32 0, .int .u32 0, .int .u32 0, .int .u32 0, .int .u32 0, .int .u32 0, .int .u32 0, .int .u32 0, .slice none 0 0, .int .i64 0]⟩
def ti64 : TI := ⟨.array 64 50, 64, 256, .agg #[.int .u32 0, .int .u32 0, .int .u32 0, .int .u32 0, .int .u32 0, .int .u32 0, .int .u32 0, .int .u32 0, .int .u32 0, .int .u32 0, .int .u32 0, .int .u32 0, .int .u32 0, .int .u32 0, .int .u32 0, .int .u32 0, .int .u32 0, .int .u32 0, .int .u32 0, .int .u32 0, .int .u32 0, .int .u32 0, .int .u32 0, .int .u32 0, .int .u32 0, .int .u32 0, .int .u32 0, .int .u32 0, .int .u32 0, .int .u32 0, .int .u32 0, .int .u32 0, .int .u32 0, .int .u32 0, .int .u32 0, .int .u32 0, .int .u32 0, .int .u32 0, .int .u32 0, .int .u32 0, .int .u32 0, .int .u32 0, .int .u32 0, .int .u32 0, .int .u32 0, .int .u32 0, .int .u32 0, .int .u32 0, .int .u32 0, .int .u32 0, .int .u32 0, .int .u32 0, .int .u32 0, .int .u32 0, .int .u32 0, .int .u32 0, .int .u32 0, .int .u32 0, .int .u32 0, .int .u32 0, .int .u32 0, .int .u32 0, .int .u32 0, .int .u32 0]⟩
def ti67 : TI := ⟨.ptr 54, 1, 8, .pointer none⟩
def ti68 : TI := ⟨.ptr 74, 1, 8, .pointer none⟩
def ti72 : TI := ⟨.slice 50, 1, 24, .slice none 0 0⟩
def ti73 : TI := ⟨.struct [(0, 23), (1, 36)], 2, 32, .agg #[.slice none 0 0, .int .i64 0]⟩
def ti74 : TI := ⟨.struct [(0, 23), (1, 36)], 2, 32, .agg #[.slice none 0 0, .int .i64 0]⟩
def ti80 : TI := ⟨.struct [(0, 17), (1, 17), (2, 17), (3, 9)], 4, 40, .agg #[.pointer none, .pointer none, .pointer none, .string ⟨#[]⟩]⟩
def ti82 : TI := ⟨.array 0 16, 0, 0, .agg #[]⟩
def ti83 : TI := ⟨.struct [(0, 82)], 0, 0, .agg #[]⟩
def ti88 : TI := ⟨.ptr 5, 1, 8, .pointer none⟩
def ti91 : TI := ⟨.struct [(0, 12), (1, 12), (2, 50), (3, 85), (4, 5), (5, 5), (6, 86), (7, 87), (8, 88), (9, 89), (10, 90)], 11, 48, .agg #[.int .u64 0, .int .u64 0, .int .u32 0, .int .u8 0, .int .u8 0, .int .u8 0, .int .u8 0, .nilFunc, .pointer none, .int .i32 0, .int .i32 0]⟩
def tab : Tab := [(5, ti5), (3, ti3), (23, ti23), (49, ti49), (50, ti50), (4, ti4), (9, ti9), (2, ti2), (21, ti21), (22, ti22), (25, ti25), (26, ti26), (33, ti33), (34, ti34), (36, ti36), (51, ti51), (53, ti53), (54, ti54), (56, ti56), (57, ti57), (64, ti64), (67, ti67), (68, ti68), (72, ti72), (73, ti73), (74, ti74), (80, ti80), (82, ti82), (83, ti83), (88, ti88), (91, ti91)]
theorem tabOk : TabOk Tryd.prog tab :=
  .cons (by kernel_rfl) (by kernel_rfl) <|
  .cons (by kernel_rfl) (by kernel_rfl) <|
  .cons (by kernel_rfl) (by kernel_rfl) <|
  .cons (by kernel_rfl) (by kernel_rfl) <|
  .cons (by kernel_rfl) (by kernel_rfl) <|
  .cons (by kernel_rfl) (by kernel_rfl) <|
  .cons (by kernel_rfl) (by kernel_rfl) <|
  .cons (by kernel_rfl) (by kernel_rfl) <|
  .cons (by kernel_rfl) (by kernel_rfl) <|
  .cons (by kernel_rfl) (by kernel_rfl) <|
  .cons (by kernel_rfl) (by kernel_rfl) <|
  .cons (by kernel_rfl) (by kernel_rfl) <|
  .cons (by kernel_rfl) (by kernel_rfl) <|
  .cons (by kernel_rfl) (by kernel_rfl) <|
  .cons (by kernel_rfl) (by kernel_rfl) <|
  .cons (by kernel_rfl) (by kernel_rfl) <|
  .cons (by kernel_rfl) (by kernel_rfl) <|
  .cons (by kernel_rfl) (by kernel_rfl) <|
  .cons (by kernel_rfl) (by kernel_rfl) <|
  .cons (by kernel_rfl) (by kernel_rfl) <|
  .cons (by kernel_rfl) (by kernel_rfl) <|
  .cons (by kernel_rfl) (by kernel_rfl) <|
  .cons (by kernel_rfl) (by kernel_rfl) <|
  .cons (by kernel_rfl) (by kernel_rfl) <|
  .cons (by kernel_rfl) (by kernel_rfl) <|
  .cons (by kernel_rfl) (by kernel_rfl) <|
  .cons (by kernel_rfl) (by kernel_rfl) <|
  .cons (by kernel_rfl) (by kernel_rfl) <|
  .cons (by kernel_rfl) (by kernel_rfl) <|
  .cons (by kernel_rfl) (by kernel_rfl) <|
  .cons (by kernel_rfl) (by kernel_rfl) <|
  .nil _
theorem fnsOk : Fns Tryd.prog 3 43 := .of (by kernel_rfl)
noncomputable abbrev cx : Cx := ⟨Tryd.prog, tab, 3, 43⟩
theorem cxOk : cx.Ok := ⟨tabOk, fnsOk, by kernel_rfl⟩
end Go.Proofs.YtnmjjdjfhaigcaaDoor.Sx
