/-
  The types of the program at hand, and which of its functions can be called.
-/
import Derived.Test.YtjghlmbibimbiaaSx10
import Derived.Test.YtjghlmbibimbiaaProg
namespace Go.Proofs.Ytjghlmbibimbiaa.Sx
open Go
set_option maxRecDepth 100000
def ti5 : TI := ⟨.int .u8, 1, 1, .int .u8 0⟩
def ti3 : TI := ⟨.int .i64, 1, 8, .int .i64 0⟩
def ti25 : TI := ⟨.slice 5, 1, 24, .slice none 0 0⟩
def ti24 : TI := ⟨.int .u64, 1, 8, .int .u64 0⟩
def ti23 : TI := ⟨.int .u32, 1, 4, .int .u32 0⟩
def ti4 : TI := ⟨.bool, 1, 1, .bool false⟩
def ti9 : TI := ⟨.string, 1, 16, .string ⟨#[]⟩⟩
def ti2 : TI := ⟨.int .i64, 1, 8, .int .i64 0⟩
def ti21 : TI := ⟨.int .i32, 1, 4, .int .i32 0⟩
def ti22 : TI := ⟨.int .u16, 1, 2, .int .u16 0⟩
def ti33 : TI := ⟨.int .i64, 1, 8, .int .i64 0⟩
def ti39 : TI := ⟨.ptr 64, 1, 8, .pointer none⟩
def ti53 : TI := ⟨.slice 59, 1, 24, .slice none 0 0⟩
def ti54 : TI := ⟨.struct [(0, 25), (1, 3)], 2, 32, .agg #[.slice none 0 0, .int .i64 0]⟩
def ti55 : TI := ⟨.struct [(0, 25), (1, 3)], 2, 32, .agg #[.slice none 0 0, .int .i64 0]⟩
def ti58 : TI := ⟨.struct [(0, 5), (1, 3)], 2, 16, .agg #[.int .u8 0, .int .i64 0]⟩
def ti59 : TI := ⟨.struct [(0, 5), (1, 3)], 2, 16, .agg #[.int .u8 0, .int .i64 0]⟩
def ti62 : TI := ⟨.int .u64, 1, 8, .int .u64 0⟩
def ti63 : TI := ⟨.struct [(0, 25), (1, 33)], 2, 32, .agg #[.slice none 0 0, .int .i64 0]⟩
def ti64 : TI := ⟨.struct [(0, 25), (1, 33)], 2, 32, .agg #[.slice none 0 0, .int .i64 0]⟩
def ti79 : TI := ⟨.struct [(0, 17), (1, 17), (2, 17), (3, 9)], 4, 40, .agg #[.pointer none, .pointer none, .pointer none, .string ⟨#[]⟩]⟩
def ti81 : TI := ⟨.array 0 16, 0, 0, .agg #[]⟩
def ti82 : TI := ⟨.struct [(0, 81)], 0, 0, .agg #[]⟩
def ti87 : TI := ⟨.ptr 5, 1, 8, .pointer none⟩
def ti90 : TI := ⟨.struct [(0, 12), (1, 12), (2, 23), (3, 84), (4, 5), (5, 5), (6, 85), (7, 86), (8, 87), (9, 88), (10, 89)], 11, 48, .agg #[.int .u64 0, .int .u64 0, .int .u32 0, .int .u8 0, .int .u8 0, .int .u8 0, .int .u8 0, .nilFunc, .pointer none, .int .i32 0, .int .i32 0]⟩
def tab : Tab := [(5, ti5), (3, ti3), (25, ti25), (24, ti24), (23, ti23), (4, ti4), (9, ti9), (2, ti2), (21, ti21), (22, ti22), (33, ti33), (39, ti39), (53, ti53), (54, ti54), (55, ti55), (58, ti58), (59, ti59), (62, ti62), (63, ti63), (64, ti64), (79, ti79), (81, ti81), (82, ti82), (87, ti87), (90, ti90)]
theorem tabOk : TabOk Try.prog tab :=
  .cons (by kernel_rfl) (by kernel_rfl) <|
  .cons (by kernel_rfl) (by kernel_rfl) <|
  .cons (by kernel_rfl) (by kernel_rfl) <|
  .cons (by kernel_rfl) (by kernel_rfl) <|
  .cons (by kernel_rfl) (by kernel_rfl) <|
  .cons (by kernel_rfl) (by kernel_rfl) <|
  .cons (by kernel_rfl) (by kernel_rfl) <|
  .cons (by kernel_rfl) (by kernel_rfl) <|
  .cons (by kernel_rfl) (by kernel_rfl) <|
  .cons (by kernel_rfl) (by kernel_rfl) <|
  .cons (by kernel_rfl) (by kernel_rfl) <|
  .cons (by kernel_rfl) (by kernel_rfl) <|
  .cons (by kernel_rfl) (by kernel_rfl) <|
  .cons (by kernel_rfl) (by kernel_rfl) <|
  .cons (by kernel_rfl) (by kernel_rfl) <|
  .cons (by kernel_rfl) (by kernel_rfl) <|
  .cons (by kernel_rfl) (by kernel_rfl) <|
  .cons (by kernel_rfl) (by kernel_rfl) <|
  .cons (by kernel_rfl) (by kernel_rfl) <|
  .cons (by kernel_rfl) (by kernel_rfl) <|
  .cons (by kernel_rfl) (by kernel_rfl) <|
  .cons (by kernel_rfl) (by kernel_rfl) <|
  .cons (by kernel_rfl) (by kernel_rfl) <|
  .cons (by kernel_rfl) (by kernel_rfl) <|
  .cons (by kernel_rfl) (by kernel_rfl) <|
  .nil _
theorem fnsOk : Fns Try.prog 3 43 := .of (by kernel_rfl)
noncomputable abbrev cx : Cx := ⟨Try.prog, tab, 3, 43⟩
theorem cxOk : cx.Ok := ⟨tabOk, fnsOk, by kernel_rfl⟩
end Go.Proofs.Ytjghlmbibimbiaa.Sx
