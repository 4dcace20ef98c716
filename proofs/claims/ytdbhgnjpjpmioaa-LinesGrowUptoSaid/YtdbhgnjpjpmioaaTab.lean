/- The table of types of this seat's translation (by tabgen.py), held against the program. -/
import Derived.Test.YtdbhgnjpjpmioaaFb
import Derived.Test.YtdbhgnjpjpmioaaProg
import Derived.KernelRfl
namespace Go.Proofs.Ytdbhgnjpjpmioaa
open Go.Eng

def tyList : List TI := [noTI,
  ⟨.func, 1, 8, [.nilFunc]⟩,
  ⟨.int .i64, 1, 8, [.int .i64 0]⟩,
  ⟨.int .i64, 1, 8, [.int .i64 0]⟩,
  ⟨.bool, 1, 1, [.bool false]⟩,
  ⟨.int .u8, 1, 1, [.int .u8 0]⟩,
  ⟨.int .u8, 1, 1, [.int .u8 0]⟩,
  ⟨.struct [(0, 2), (1, 3), (2, 4), (3, 6)], 4, 24, [.int .i64 0, .int .i64 0, .bool false, .int .u8 0]⟩,
  ⟨.struct [(0, 2), (1, 3), (2, 4), (3, 6)], 4, 24, [.int .i64 0, .int .i64 0, .bool false, .int .u8 0]⟩,
  ⟨.str, 1, 16, [.string ⟨#[]⟩]⟩,
  ⟨.str, 1, 16, [.string ⟨#[]⟩]⟩,
  ⟨.str, 1, 16, [.string ⟨#[]⟩]⟩,
  ⟨.int .u64, 1, 8, [.int .u64 0]⟩,
  ⟨.struct [(0, 9), (1, 12)], 2, 24, [.string ⟨#[]⟩, .int .u64 0]⟩,
  ⟨.struct [(0, 9), (1, 12)], 2, 24, [.string ⟨#[]⟩, .int .u64 0]⟩,
  ⟨.ptr 137, 1, 8, [.pointer none]⟩,
  ⟨.ptr 140, 1, 8, [.pointer none]⟩,
  ⟨.ptr 150, 1, 8, [.pointer none]⟩,
  ⟨.struct [(0, 17)], 1, 8, [.pointer none]⟩,
  ⟨.struct [(0, 17)], 1, 8, [.pointer none]⟩,
  ⟨.iface, 1, 16, [.nilIface]⟩,
  ⟨.int .i32, 1, 4, [.int .i32 0]⟩,
  ⟨.slice 5, 1, 24, [.slice none 0 0]⟩,
  ⟨.slice 3, 1, 24, [.slice none 0 0]⟩,
  ⟨.int .i64, 1, 8, [.int .i64 0]⟩,
  noTI,
  ⟨.func, 1, 8, [.nilFunc]⟩,
  noTI,
  ⟨.func, 1, 8, [.nilFunc]⟩,
  noTI,
  ⟨.func, 1, 8, [.nilFunc]⟩,
  noTI,
  ⟨.func, 1, 8, [.nilFunc]⟩,
  ⟨.func, 1, 8, [.nilFunc]⟩,
  ⟨.func, 1, 8, [.nilFunc]⟩,
  ⟨.func, 1, 8, [.nilFunc]⟩,
  ⟨.func, 1, 8, [.nilFunc]⟩,
  ⟨.func, 1, 8, [.nilFunc]⟩,
  ⟨.ptr 83, 1, 8, [.pointer none]⟩,
  noTI,
  ⟨.func, 1, 8, [.nilFunc]⟩,
  ⟨.struct [(0, 4), (1, 4), (2, 3), (3, 3), (4, 22), (5, 22), (6, 22), (7, 3), (8, 4), (9, 4), (10, 4)], 11, 112, [.bool false, .bool false, .int .i64 0, .int .i64 0, .slice none 0 0, .slice none 0 0, .slice none 0 0, .int .i64 0, .bool false, .bool false, .bool false]⟩,
  ⟨.struct [(0, 4), (1, 4), (2, 3), (3, 3), (4, 22), (5, 22), (6, 22), (7, 3), (8, 4), (9, 4), (10, 4)], 11, 112, [.bool false, .bool false, .int .i64 0, .int .i64 0, .slice none 0 0, .slice none 0 0, .slice none 0 0, .int .i64 0, .bool false, .bool false, .bool false]⟩,
  noTI,
  ⟨.func, 1, 8, [.nilFunc]⟩,
  ⟨.struct [(0, 4), (1, 4), (2, 4), (3, 4), (4, 4), (5, 4), (6, 4), (7, 4)], 8, 8, [.bool false, .bool false, .bool false, .bool false, .bool false, .bool false, .bool false, .bool false]⟩,
  ⟨.struct [(0, 4), (1, 4), (2, 4), (3, 4), (4, 4), (5, 4), (6, 4), (7, 4)], 8, 8, [.bool false, .bool false, .bool false, .bool false, .bool false, .bool false, .bool false, .bool false]⟩,
  noTI,
  ⟨.func, 1, 8, [.nilFunc]⟩,
  ⟨.func, 1, 8, [.nilFunc]⟩,
  ⟨.func, 1, 8, [.nilFunc]⟩,
  ⟨.func, 1, 8, [.nilFunc]⟩,
  ⟨.func, 1, 8, [.nilFunc]⟩,
  ⟨.func, 1, 8, [.nilFunc]⟩,
  ⟨.struct [(0, 4), (1, 4), (2, 3), (3, 3), (4, 22), (5, 22), (6, 22), (7, 3), (8, 4), (9, 4), (10, 4)], 11, 112, [.bool false, .bool false, .int .i64 0, .int .i64 0, .slice none 0 0, .slice none 0 0, .slice none 0 0, .int .i64 0, .bool false, .bool false, .bool false]⟩,
  ⟨.func, 1, 8, [.nilFunc]⟩,
  ⟨.func, 1, 8, [.nilFunc]⟩,
  ⟨.ptr 59, 1, 8, [.pointer none]⟩,
  ⟨.struct [(0, 22), (1, 3), (2, 3), (3, 3)], 4, 48, [.slice none 0 0, .int .i64 0, .int .i64 0, .int .i64 0]⟩,
  ⟨.struct [(0, 22), (1, 3), (2, 3), (3, 3)], 4, 48, [.slice none 0 0, .int .i64 0, .int .i64 0, .int .i64 0]⟩,
  ⟨.func, 1, 8, [.nilFunc]⟩,
  ⟨.func, 1, 8, [.nilFunc]⟩,
  ⟨.func, 1, 8, [.nilFunc]⟩,
  ⟨.func, 1, 8, [.nilFunc]⟩,
  ⟨.func, 1, 8, [.nilFunc]⟩,
  ⟨.func, 1, 8, [.nilFunc]⟩,
  noTI,
  ⟨.func, 1, 8, [.nilFunc]⟩,
  ⟨.func, 1, 8, [.nilFunc]⟩,
  ⟨.slice 71, 1, 24, [.slice none 0 0]⟩,
  ⟨.struct [(0, 3), (1, 3), (2, 3)], 3, 24, [.int .i64 0, .int .i64 0, .int .i64 0]⟩,
  ⟨.struct [(0, 3), (1, 3), (2, 3)], 3, 24, [.int .i64 0, .int .i64 0, .int .i64 0]⟩,
  ⟨.func, 1, 8, [.nilFunc]⟩,
  ⟨.func, 1, 8, [.nilFunc]⟩,
  ⟨.func, 1, 8, [.nilFunc]⟩,
  ⟨.func, 1, 8, [.nilFunc]⟩,
  ⟨.func, 1, 8, [.nilFunc]⟩,
  ⟨.func, 1, 8, [.nilFunc]⟩,
  ⟨.func, 1, 8, [.nilFunc]⟩,
  ⟨.struct [(0, 4), (1, 22), (2, 3), (3, 3)], 4, 48, [.bool false, .slice none 0 0, .int .i64 0, .int .i64 0]⟩,
  ⟨.struct [(0, 4), (1, 22), (2, 3), (3, 3)], 4, 48, [.bool false, .slice none 0 0, .int .i64 0, .int .i64 0]⟩,
  ⟨.func, 1, 8, [.nilFunc]⟩,
  ⟨.struct [(0, 80)], 4, 48, [.bool false, .slice none 0 0, .int .i64 0, .int .i64 0]⟩,
  ⟨.struct [(0, 80)], 4, 48, [.bool false, .slice none 0 0, .int .i64 0, .int .i64 0]⟩,
  ⟨.func, 1, 8, [.nilFunc]⟩,
  ⟨.iface, 1, 16, [.nilIface]⟩,
  ⟨.iface, 1, 16, [.nilIface]⟩,
  ⟨.func, 1, 8, [.nilFunc]⟩,
  ⟨.func, 1, 8, [.nilFunc]⟩,
  ⟨.func, 1, 8, [.nilFunc]⟩,
  ⟨.func, 1, 8, [.nilFunc]⟩,
  ⟨.func, 1, 8, [.nilFunc]⟩,
  ⟨.func, 1, 8, [.nilFunc]⟩,
  ⟨.func, 1, 8, [.nilFunc]⟩,
  ⟨.int .u64, 1, 8, [.int .u64 0]⟩,
  noTI,
  ⟨.func, 1, 8, [.nilFunc]⟩,
  noTI,
  ⟨.func, 1, 8, [.nilFunc]⟩,
  noTI,
  ⟨.func, 1, 8, [.nilFunc]⟩,
  ⟨.ptr 106, 1, 8, [.pointer none]⟩,
  noTI,
  ⟨.func, 1, 8, [.nilFunc]⟩,
  ⟨.func, 1, 8, [.nilFunc]⟩,
  ⟨.struct [(0, 42), (11, 86)], 12, 128, [.bool false, .bool false, .int .i64 0, .int .i64 0, .slice none 0 0, .slice none 0 0, .slice none 0 0, .int .i64 0, .bool false, .bool false, .bool false, .nilIface]⟩,
  ⟨.struct [(0, 42), (11, 86)], 12, 128, [.bool false, .bool false, .int .i64 0, .int .i64 0, .slice none 0 0, .slice none 0 0, .slice none 0 0, .int .i64 0, .bool false, .bool false, .bool false, .nilIface]⟩,
  ⟨.func, 1, 8, [.nilFunc]⟩,
  ⟨.func, 1, 8, [.nilFunc]⟩,
  noTI,
  ⟨.func, 1, 8, [.nilFunc]⟩,
  ⟨.int .u64, 1, 8, [.int .u64 0]⟩,
  noTI,
  ⟨.func, 1, 8, [.nilFunc]⟩,
  ⟨.func, 1, 8, [.nilFunc]⟩,
  ⟨.func, 1, 8, [.nilFunc]⟩,
  ⟨.slice 121, 1, 24, [.slice none 0 0]⟩,
  ⟨.func, 1, 8, [.nilFunc]⟩,
  ⟨.func, 1, 8, [.nilFunc]⟩,
  ⟨.func, 1, 8, [.nilFunc]⟩,
  ⟨.struct [(0, 5), (1, 118), (2, 119)], 3, 24, [.int .u8 0, .nilFunc, .nilFunc]⟩,
  ⟨.struct [(0, 5), (1, 118), (2, 119)], 3, 24, [.int .u8 0, .nilFunc, .nilFunc]⟩,
  noTI,
  ⟨.func, 1, 8, [.nilFunc]⟩,
  ⟨.int .i64, 1, 8, [.int .i64 0]⟩,
  ⟨.func, 1, 8, [.nilFunc]⟩,
  ⟨.func, 1, 8, [.nilFunc]⟩,
  ⟨.ptr 46, 1, 8, [.pointer none]⟩,
  noTI,
  ⟨.func, 1, 8, [.nilFunc]⟩,
  ⟨.func, 1, 8, [.nilFunc]⟩,
  noTI,
  ⟨.func, 1, 8, [.nilFunc]⟩,
  ⟨.ptr 124, 1, 8, [.pointer none]⟩,
  ⟨.func, 1, 8, [.nilFunc]⟩,
  ⟨.func, 1, 8, [.nilFunc]⟩,
  ⟨.struct [(0, 17), (1, 17), (2, 17), (3, 9)], 4, 40, [.pointer none, .pointer none, .pointer none, .string ⟨#[]⟩]⟩,
  ⟨.struct [(0, 17), (1, 17), (2, 17), (3, 9)], 4, 40, [.pointer none, .pointer none, .pointer none, .string ⟨#[]⟩]⟩,
  ⟨.arr 0 16, 0, 0, []⟩,
  ⟨.struct [(0, 138)], 0, 0, []⟩,
  ⟨.struct [(0, 138)], 0, 0, []⟩,
  ⟨.func, 1, 8, [.nilFunc]⟩,
  ⟨.int .u32, 1, 4, [.int .u32 0]⟩,
  ⟨.int .u8, 1, 1, [.int .u8 0]⟩,
  ⟨.int .u8, 1, 1, [.int .u8 0]⟩,
  ⟨.func, 1, 8, [.nilFunc]⟩,
  ⟨.ptr 5, 1, 8, [.pointer none]⟩,
  ⟨.int .i32, 1, 4, [.int .i32 0]⟩,
  ⟨.int .i32, 1, 4, [.int .i32 0]⟩,
  ⟨.struct [(0, 12), (1, 12), (2, 142), (3, 143), (4, 5), (5, 5), (6, 144), (7, 145), (8, 146), (9, 147), (10, 148)], 11, 48, [.int .u64 0, .int .u64 0, .int .u32 0, .int .u8 0, .int .u8 0, .int .u8 0, .int .u8 0, .nilFunc, .pointer none, .int .i32 0, .int .i32 0]⟩,
  ⟨.struct [(0, 12), (1, 12), (2, 142), (3, 143), (4, 5), (5, 5), (6, 144), (7, 145), (8, 146), (9, 147), (10, 148)], 11, 48, [.int .u64 0, .int .u64 0, .int .u32 0, .int .u8 0, .int .u8 0, .int .u8 0, .int .u8 0, .nilFunc, .pointer none, .int .i32 0, .int .i32 0]⟩,
  ⟨.ptr 80, 1, 8, [.pointer none]⟩,
  noTI]
theorem tyListOk : tabB Try.prog 0 tyList = true := by kernel_rfl
def Γ : Tab := tabOf tyList
theorem Γok : Γ.ok Try.prog := tabOf_ok tyListOk
theorem g0 : Γ 0 = noTI := rfl
theorem g1 : Γ 1 = ⟨.func, 1, 8, [.nilFunc]⟩ := rfl
theorem g2 : Γ 2 = ⟨.int .i64, 1, 8, [.int .i64 0]⟩ := rfl
theorem g3 : Γ 3 = ⟨.int .i64, 1, 8, [.int .i64 0]⟩ := rfl
theorem g4 : Γ 4 = ⟨.bool, 1, 1, [.bool false]⟩ := rfl
theorem g5 : Γ 5 = ⟨.int .u8, 1, 1, [.int .u8 0]⟩ := rfl
theorem g6 : Γ 6 = ⟨.int .u8, 1, 1, [.int .u8 0]⟩ := rfl
theorem g7 : Γ 7 = ⟨.struct [(0, 2), (1, 3), (2, 4), (3, 6)], 4, 24, [.int .i64 0, .int .i64 0, .bool false, .int .u8 0]⟩ := rfl
theorem g8 : Γ 8 = ⟨.struct [(0, 2), (1, 3), (2, 4), (3, 6)], 4, 24, [.int .i64 0, .int .i64 0, .bool false, .int .u8 0]⟩ := rfl
theorem g9 : Γ 9 = ⟨.str, 1, 16, [.string ⟨#[]⟩]⟩ := rfl
theorem g10 : Γ 10 = ⟨.str, 1, 16, [.string ⟨#[]⟩]⟩ := rfl
theorem g11 : Γ 11 = ⟨.str, 1, 16, [.string ⟨#[]⟩]⟩ := rfl
theorem g12 : Γ 12 = ⟨.int .u64, 1, 8, [.int .u64 0]⟩ := rfl
theorem g13 : Γ 13 = ⟨.struct [(0, 9), (1, 12)], 2, 24, [.string ⟨#[]⟩, .int .u64 0]⟩ := rfl
theorem g14 : Γ 14 = ⟨.struct [(0, 9), (1, 12)], 2, 24, [.string ⟨#[]⟩, .int .u64 0]⟩ := rfl
theorem g15 : Γ 15 = ⟨.ptr 137, 1, 8, [.pointer none]⟩ := rfl
theorem g16 : Γ 16 = ⟨.ptr 140, 1, 8, [.pointer none]⟩ := rfl
theorem g17 : Γ 17 = ⟨.ptr 150, 1, 8, [.pointer none]⟩ := rfl
theorem g18 : Γ 18 = ⟨.struct [(0, 17)], 1, 8, [.pointer none]⟩ := rfl
theorem g19 : Γ 19 = ⟨.struct [(0, 17)], 1, 8, [.pointer none]⟩ := rfl
theorem g20 : Γ 20 = ⟨.iface, 1, 16, [.nilIface]⟩ := rfl
theorem g21 : Γ 21 = ⟨.int .i32, 1, 4, [.int .i32 0]⟩ := rfl
theorem g22 : Γ 22 = ⟨.slice 5, 1, 24, [.slice none 0 0]⟩ := rfl
theorem g23 : Γ 23 = ⟨.slice 3, 1, 24, [.slice none 0 0]⟩ := rfl
theorem g24 : Γ 24 = ⟨.int .i64, 1, 8, [.int .i64 0]⟩ := rfl
theorem g25 : Γ 25 = noTI := rfl
theorem g26 : Γ 26 = ⟨.func, 1, 8, [.nilFunc]⟩ := rfl
theorem g27 : Γ 27 = noTI := rfl
theorem g28 : Γ 28 = ⟨.func, 1, 8, [.nilFunc]⟩ := rfl
theorem g29 : Γ 29 = noTI := rfl
theorem g30 : Γ 30 = ⟨.func, 1, 8, [.nilFunc]⟩ := rfl
theorem g31 : Γ 31 = noTI := rfl
theorem g32 : Γ 32 = ⟨.func, 1, 8, [.nilFunc]⟩ := rfl
theorem g33 : Γ 33 = ⟨.func, 1, 8, [.nilFunc]⟩ := rfl
theorem g34 : Γ 34 = ⟨.func, 1, 8, [.nilFunc]⟩ := rfl
theorem g35 : Γ 35 = ⟨.func, 1, 8, [.nilFunc]⟩ := rfl
theorem g36 : Γ 36 = ⟨.func, 1, 8, [.nilFunc]⟩ := rfl
theorem g37 : Γ 37 = ⟨.func, 1, 8, [.nilFunc]⟩ := rfl
theorem g38 : Γ 38 = ⟨.ptr 83, 1, 8, [.pointer none]⟩ := rfl
theorem g39 : Γ 39 = noTI := rfl
theorem g40 : Γ 40 = ⟨.func, 1, 8, [.nilFunc]⟩ := rfl
theorem g41 : Γ 41 = ⟨.struct [(0, 4), (1, 4), (2, 3), (3, 3), (4, 22), (5, 22), (6, 22), (7, 3), (8, 4), (9, 4), (10, 4)], 11, 112, [.bool false, .bool false, .int .i64 0, .int .i64 0, .slice none 0 0, .slice none 0 0, .slice none 0 0, .int .i64 0, .bool false, .bool false, .bool false]⟩ := rfl
theorem g42 : Γ 42 = ⟨.struct [(0, 4), (1, 4), (2, 3), (3, 3), (4, 22), (5, 22), (6, 22), (7, 3), (8, 4), (9, 4), (10, 4)], 11, 112, [.bool false, .bool false, .int .i64 0, .int .i64 0, .slice none 0 0, .slice none 0 0, .slice none 0 0, .int .i64 0, .bool false, .bool false, .bool false]⟩ := rfl
theorem g43 : Γ 43 = noTI := rfl
theorem g44 : Γ 44 = ⟨.func, 1, 8, [.nilFunc]⟩ := rfl
theorem g45 : Γ 45 = ⟨.struct [(0, 4), (1, 4), (2, 4), (3, 4), (4, 4), (5, 4), (6, 4), (7, 4)], 8, 8, [.bool false, .bool false, .bool false, .bool false, .bool false, .bool false, .bool false, .bool false]⟩ := rfl
theorem g46 : Γ 46 = ⟨.struct [(0, 4), (1, 4), (2, 4), (3, 4), (4, 4), (5, 4), (6, 4), (7, 4)], 8, 8, [.bool false, .bool false, .bool false, .bool false, .bool false, .bool false, .bool false, .bool false]⟩ := rfl
theorem g47 : Γ 47 = noTI := rfl
theorem g48 : Γ 48 = ⟨.func, 1, 8, [.nilFunc]⟩ := rfl
theorem g49 : Γ 49 = ⟨.func, 1, 8, [.nilFunc]⟩ := rfl
theorem g50 : Γ 50 = ⟨.func, 1, 8, [.nilFunc]⟩ := rfl
theorem g51 : Γ 51 = ⟨.func, 1, 8, [.nilFunc]⟩ := rfl
theorem g52 : Γ 52 = ⟨.func, 1, 8, [.nilFunc]⟩ := rfl
theorem g53 : Γ 53 = ⟨.func, 1, 8, [.nilFunc]⟩ := rfl
theorem g54 : Γ 54 = ⟨.struct [(0, 4), (1, 4), (2, 3), (3, 3), (4, 22), (5, 22), (6, 22), (7, 3), (8, 4), (9, 4), (10, 4)], 11, 112, [.bool false, .bool false, .int .i64 0, .int .i64 0, .slice none 0 0, .slice none 0 0, .slice none 0 0, .int .i64 0, .bool false, .bool false, .bool false]⟩ := rfl
theorem g55 : Γ 55 = ⟨.func, 1, 8, [.nilFunc]⟩ := rfl
theorem g56 : Γ 56 = ⟨.func, 1, 8, [.nilFunc]⟩ := rfl
theorem g57 : Γ 57 = ⟨.ptr 59, 1, 8, [.pointer none]⟩ := rfl
theorem g58 : Γ 58 = ⟨.struct [(0, 22), (1, 3), (2, 3), (3, 3)], 4, 48, [.slice none 0 0, .int .i64 0, .int .i64 0, .int .i64 0]⟩ := rfl
theorem g59 : Γ 59 = ⟨.struct [(0, 22), (1, 3), (2, 3), (3, 3)], 4, 48, [.slice none 0 0, .int .i64 0, .int .i64 0, .int .i64 0]⟩ := rfl
theorem g60 : Γ 60 = ⟨.func, 1, 8, [.nilFunc]⟩ := rfl
theorem g61 : Γ 61 = ⟨.func, 1, 8, [.nilFunc]⟩ := rfl
theorem g62 : Γ 62 = ⟨.func, 1, 8, [.nilFunc]⟩ := rfl
theorem g63 : Γ 63 = ⟨.func, 1, 8, [.nilFunc]⟩ := rfl
theorem g64 : Γ 64 = ⟨.func, 1, 8, [.nilFunc]⟩ := rfl
theorem g65 : Γ 65 = ⟨.func, 1, 8, [.nilFunc]⟩ := rfl
theorem g66 : Γ 66 = noTI := rfl
theorem g67 : Γ 67 = ⟨.func, 1, 8, [.nilFunc]⟩ := rfl
theorem g68 : Γ 68 = ⟨.func, 1, 8, [.nilFunc]⟩ := rfl
theorem g69 : Γ 69 = ⟨.slice 71, 1, 24, [.slice none 0 0]⟩ := rfl
theorem g70 : Γ 70 = ⟨.struct [(0, 3), (1, 3), (2, 3)], 3, 24, [.int .i64 0, .int .i64 0, .int .i64 0]⟩ := rfl
theorem g71 : Γ 71 = ⟨.struct [(0, 3), (1, 3), (2, 3)], 3, 24, [.int .i64 0, .int .i64 0, .int .i64 0]⟩ := rfl
theorem g72 : Γ 72 = ⟨.func, 1, 8, [.nilFunc]⟩ := rfl
theorem g73 : Γ 73 = ⟨.func, 1, 8, [.nilFunc]⟩ := rfl
theorem g74 : Γ 74 = ⟨.func, 1, 8, [.nilFunc]⟩ := rfl
theorem g75 : Γ 75 = ⟨.func, 1, 8, [.nilFunc]⟩ := rfl
theorem g76 : Γ 76 = ⟨.func, 1, 8, [.nilFunc]⟩ := rfl
theorem g77 : Γ 77 = ⟨.func, 1, 8, [.nilFunc]⟩ := rfl
theorem g78 : Γ 78 = ⟨.func, 1, 8, [.nilFunc]⟩ := rfl
theorem g79 : Γ 79 = ⟨.struct [(0, 4), (1, 22), (2, 3), (3, 3)], 4, 48, [.bool false, .slice none 0 0, .int .i64 0, .int .i64 0]⟩ := rfl
theorem g80 : Γ 80 = ⟨.struct [(0, 4), (1, 22), (2, 3), (3, 3)], 4, 48, [.bool false, .slice none 0 0, .int .i64 0, .int .i64 0]⟩ := rfl
theorem g81 : Γ 81 = ⟨.func, 1, 8, [.nilFunc]⟩ := rfl
theorem g82 : Γ 82 = ⟨.struct [(0, 80)], 4, 48, [.bool false, .slice none 0 0, .int .i64 0, .int .i64 0]⟩ := rfl
theorem g83 : Γ 83 = ⟨.struct [(0, 80)], 4, 48, [.bool false, .slice none 0 0, .int .i64 0, .int .i64 0]⟩ := rfl
theorem g84 : Γ 84 = ⟨.func, 1, 8, [.nilFunc]⟩ := rfl
theorem g85 : Γ 85 = ⟨.iface, 1, 16, [.nilIface]⟩ := rfl
theorem g86 : Γ 86 = ⟨.iface, 1, 16, [.nilIface]⟩ := rfl
theorem g87 : Γ 87 = ⟨.func, 1, 8, [.nilFunc]⟩ := rfl
theorem g88 : Γ 88 = ⟨.func, 1, 8, [.nilFunc]⟩ := rfl
theorem g89 : Γ 89 = ⟨.func, 1, 8, [.nilFunc]⟩ := rfl
theorem g90 : Γ 90 = ⟨.func, 1, 8, [.nilFunc]⟩ := rfl
theorem g91 : Γ 91 = ⟨.func, 1, 8, [.nilFunc]⟩ := rfl
theorem g92 : Γ 92 = ⟨.func, 1, 8, [.nilFunc]⟩ := rfl
theorem g93 : Γ 93 = ⟨.func, 1, 8, [.nilFunc]⟩ := rfl
theorem g94 : Γ 94 = ⟨.int .u64, 1, 8, [.int .u64 0]⟩ := rfl
theorem g95 : Γ 95 = noTI := rfl
theorem g96 : Γ 96 = ⟨.func, 1, 8, [.nilFunc]⟩ := rfl
theorem g97 : Γ 97 = noTI := rfl
theorem g98 : Γ 98 = ⟨.func, 1, 8, [.nilFunc]⟩ := rfl
theorem g99 : Γ 99 = noTI := rfl
theorem g100 : Γ 100 = ⟨.func, 1, 8, [.nilFunc]⟩ := rfl
theorem g101 : Γ 101 = ⟨.ptr 106, 1, 8, [.pointer none]⟩ := rfl
theorem g102 : Γ 102 = noTI := rfl
theorem g103 : Γ 103 = ⟨.func, 1, 8, [.nilFunc]⟩ := rfl
theorem g104 : Γ 104 = ⟨.func, 1, 8, [.nilFunc]⟩ := rfl
theorem g105 : Γ 105 = ⟨.struct [(0, 42), (11, 86)], 12, 128, [.bool false, .bool false, .int .i64 0, .int .i64 0, .slice none 0 0, .slice none 0 0, .slice none 0 0, .int .i64 0, .bool false, .bool false, .bool false, .nilIface]⟩ := rfl
theorem g106 : Γ 106 = ⟨.struct [(0, 42), (11, 86)], 12, 128, [.bool false, .bool false, .int .i64 0, .int .i64 0, .slice none 0 0, .slice none 0 0, .slice none 0 0, .int .i64 0, .bool false, .bool false, .bool false, .nilIface]⟩ := rfl
theorem g107 : Γ 107 = ⟨.func, 1, 8, [.nilFunc]⟩ := rfl
theorem g108 : Γ 108 = ⟨.func, 1, 8, [.nilFunc]⟩ := rfl
theorem g109 : Γ 109 = noTI := rfl
theorem g110 : Γ 110 = ⟨.func, 1, 8, [.nilFunc]⟩ := rfl
theorem g111 : Γ 111 = ⟨.int .u64, 1, 8, [.int .u64 0]⟩ := rfl
theorem g112 : Γ 112 = noTI := rfl
theorem g113 : Γ 113 = ⟨.func, 1, 8, [.nilFunc]⟩ := rfl
theorem g114 : Γ 114 = ⟨.func, 1, 8, [.nilFunc]⟩ := rfl
theorem g115 : Γ 115 = ⟨.func, 1, 8, [.nilFunc]⟩ := rfl
theorem g116 : Γ 116 = ⟨.slice 121, 1, 24, [.slice none 0 0]⟩ := rfl
theorem g117 : Γ 117 = ⟨.func, 1, 8, [.nilFunc]⟩ := rfl
theorem g118 : Γ 118 = ⟨.func, 1, 8, [.nilFunc]⟩ := rfl
theorem g119 : Γ 119 = ⟨.func, 1, 8, [.nilFunc]⟩ := rfl
theorem g120 : Γ 120 = ⟨.struct [(0, 5), (1, 118), (2, 119)], 3, 24, [.int .u8 0, .nilFunc, .nilFunc]⟩ := rfl
theorem g121 : Γ 121 = ⟨.struct [(0, 5), (1, 118), (2, 119)], 3, 24, [.int .u8 0, .nilFunc, .nilFunc]⟩ := rfl
theorem g122 : Γ 122 = noTI := rfl
theorem g123 : Γ 123 = ⟨.func, 1, 8, [.nilFunc]⟩ := rfl
theorem g124 : Γ 124 = ⟨.int .i64, 1, 8, [.int .i64 0]⟩ := rfl
theorem g125 : Γ 125 = ⟨.func, 1, 8, [.nilFunc]⟩ := rfl
theorem g126 : Γ 126 = ⟨.func, 1, 8, [.nilFunc]⟩ := rfl
theorem g127 : Γ 127 = ⟨.ptr 46, 1, 8, [.pointer none]⟩ := rfl
theorem g128 : Γ 128 = noTI := rfl
theorem g129 : Γ 129 = ⟨.func, 1, 8, [.nilFunc]⟩ := rfl
theorem g130 : Γ 130 = ⟨.func, 1, 8, [.nilFunc]⟩ := rfl
theorem g131 : Γ 131 = noTI := rfl
theorem g132 : Γ 132 = ⟨.func, 1, 8, [.nilFunc]⟩ := rfl
theorem g133 : Γ 133 = ⟨.ptr 124, 1, 8, [.pointer none]⟩ := rfl
theorem g134 : Γ 134 = ⟨.func, 1, 8, [.nilFunc]⟩ := rfl
theorem g135 : Γ 135 = ⟨.func, 1, 8, [.nilFunc]⟩ := rfl
theorem g136 : Γ 136 = ⟨.struct [(0, 17), (1, 17), (2, 17), (3, 9)], 4, 40, [.pointer none, .pointer none, .pointer none, .string ⟨#[]⟩]⟩ := rfl
theorem g137 : Γ 137 = ⟨.struct [(0, 17), (1, 17), (2, 17), (3, 9)], 4, 40, [.pointer none, .pointer none, .pointer none, .string ⟨#[]⟩]⟩ := rfl
theorem g138 : Γ 138 = ⟨.arr 0 16, 0, 0, []⟩ := rfl
theorem g139 : Γ 139 = ⟨.struct [(0, 138)], 0, 0, []⟩ := rfl
theorem g140 : Γ 140 = ⟨.struct [(0, 138)], 0, 0, []⟩ := rfl
theorem g141 : Γ 141 = ⟨.func, 1, 8, [.nilFunc]⟩ := rfl
theorem g142 : Γ 142 = ⟨.int .u32, 1, 4, [.int .u32 0]⟩ := rfl
theorem g143 : Γ 143 = ⟨.int .u8, 1, 1, [.int .u8 0]⟩ := rfl
theorem g144 : Γ 144 = ⟨.int .u8, 1, 1, [.int .u8 0]⟩ := rfl
theorem g145 : Γ 145 = ⟨.func, 1, 8, [.nilFunc]⟩ := rfl
theorem g146 : Γ 146 = ⟨.ptr 5, 1, 8, [.pointer none]⟩ := rfl
theorem g147 : Γ 147 = ⟨.int .i32, 1, 4, [.int .i32 0]⟩ := rfl
theorem g148 : Γ 148 = ⟨.int .i32, 1, 4, [.int .i32 0]⟩ := rfl
theorem g149 : Γ 149 = ⟨.struct [(0, 12), (1, 12), (2, 142), (3, 143), (4, 5), (5, 5), (6, 144), (7, 145), (8, 146), (9, 147), (10, 148)], 11, 48, [.int .u64 0, .int .u64 0, .int .u32 0, .int .u8 0, .int .u8 0, .int .u8 0, .int .u8 0, .nilFunc, .pointer none, .int .i32 0, .int .i32 0]⟩ := rfl
theorem g150 : Γ 150 = ⟨.struct [(0, 12), (1, 12), (2, 142), (3, 143), (4, 5), (5, 5), (6, 144), (7, 145), (8, 146), (9, 147), (10, 148)], 11, 48, [.int .u64 0, .int .u64 0, .int .u32 0, .int .u8 0, .int .u8 0, .int .u8 0, .int .u8 0, .nilFunc, .pointer none, .int .i32 0, .int .i32 0]⟩ := rfl
theorem g151 : Γ 151 = ⟨.ptr 80, 1, 8, [.pointer none]⟩ := rfl
theorem g152 : Γ 152 = noTI := rfl
attribute [push_cast] g1 g2 g3 g4 g5 g6 g7 g8 g9 g10 g11 g12 g13 g14 g15 g16 g17 g18 g19 g20 g21 g22 g23 g24 g26 g28 g30 g32 g33 g34 g35 g36 g37 g38 g40 g41 g42 g44 g45 g46 g48 g49 g50 g51 g52 g53 g54 g55 g56 g57 g58 g59 g60 g61 g62 g63 g64 g65 g67 g68 g69 g70 g71 g72 g73 g74 g75 g76 g77 g78 g79 g80 g81 g82 g83 g84 g85 g86 g87 g88 g89 g90 g91 g92 g93 g94 g96 g98 g100 g101 g103 g104 g105 g106 g107 g108 g110 g111 g113 g114 g115 g116 g117 g118 g119 g120 g121 g123 g124 g125 g126 g127 g129 g130 g132 g133 g134 g135 g136 g137 g138 g139 g140 g141 g142 g143 g144 g145 g146 g147 g148 g149 g150 g151
end Go.Proofs.Ytdbhgnjpjpmioaa
