/- What is known of the types of this seat's program, off its own tables: sizes, fields, zero values. No conditions. -/
import Derived.Test.YtkaobhgodniamaaDoorEnr
import Derived.Test.YtkaobhgodniamaaDoorProg
namespace Go.Proofs.YtkaobhgodniamaaDoor
def TT : Tys where
  one := [1, 2, 3, 4, 5, 6, 9, 10, 11, 12, 15, 16, 17, 20, 21, 22, 25, 26, 27, 28, 30, 31, 32, 33, 36, 37, 38, 39, 40, 42, 43, 44, 45, 46, 48, 49, 50, 51, 52, 55, 56, 58, 59, 60, 61, 63, 64, 65, 66, 67, 68, 70, 71, 72, 73, 74, 75, 76, 78, 79, 80, 81, 83, 84, 94, 95, 96, 97, 98, 99]
  agg := [(7, 4), (8, 4), (13, 2), (14, 2), (18, 1), (19, 1), (23, 3), (24, 3), (34, 2), (35, 2), (53, 2), (54, 2), (69, 16), (85, 256), (86, 2), (87, 2), (88, 32), (89, 4), (90, 4), (91, 0), (92, 0), (93, 0), (100, 11), (101, 11)]
  fld := [(7, 0, 0, 1), (7, 1, 1, 1), (7, 2, 2, 1), (7, 3, 3, 1), (8, 0, 0, 1), (8, 1, 1, 1), (8, 2, 2, 1), (8, 3, 3, 1), (13, 0, 0, 1), (13, 1, 1, 1), (14, 0, 0, 1), (14, 1, 1, 1), (18, 0, 0, 1), (19, 0, 0, 1), (23, 0, 0, 1), (23, 1, 1, 1), (23, 2, 2, 1), (24, 0, 0, 1), (24, 1, 1, 1), (24, 2, 2, 1), (34, 0, 0, 1), (34, 1, 1, 1), (35, 0, 0, 1), (35, 1, 1, 1), (53, 0, 0, 1), (53, 1, 1, 1), (54, 0, 0, 1), (54, 1, 1, 1), (86, 0, 0, 1), (86, 1, 1, 1), (87, 0, 0, 1), (87, 1, 1, 1), (89, 0, 0, 1), (89, 1, 1, 1), (89, 2, 2, 1), (89, 3, 3, 1), (90, 0, 0, 1), (90, 1, 1, 1), (90, 2, 2, 1), (90, 3, 3, 1), (100, 0, 0, 1), (100, 1, 1, 1), (100, 2, 2, 1), (100, 3, 3, 1), (100, 4, 4, 1), (100, 5, 5, 1), (100, 6, 6, 1), (100, 7, 7, 1), (100, 8, 8, 1), (100, 9, 9, 1), (100, 10, 10, 1), (101, 0, 0, 1), (101, 1, 1, 1), (101, 2, 2, 1), (101, 3, 3, 1), (101, 4, 4, 1), (101, 5, 5, 1), (101, 6, 6, 1), (101, 7, 7, 1), (101, 8, 8, 1), (101, 9, 9, 1), (101, 10, 10, 1)]
  sl := [(22, 5, 1, 1), (43, 35, 2, 16)]
  arr := [(69, 8, 35, 2), (85, 256, 5, 1), (88, 16, 87, 2), (91, 0, 16, 1)]
  str := [9, 10, 11]
  int := [(2, .i64), (3, .i64), (5, .u8), (6, .u8), (12, .u64), (21, .i32), (26, .i64), (80, .u64), (81, .u32), (95, .u8), (96, .u8), (98, .i32), (99, .i32)]
  zero := [(1, .nilFunc), (2, .int .i64 0), (3, .int .i64 0), (4, .bool false), (5, .int .u8 0), (6, .int .u8 0), (7, .agg ⟨[.int .i64 0, .int .i64 0, .bool false, .int .u8 0]⟩), (8, .agg ⟨[.int .i64 0, .int .i64 0, .bool false, .int .u8 0]⟩), (9, .string ⟨⟨[]⟩⟩), (10, .string ⟨⟨[]⟩⟩), (11, .string ⟨⟨[]⟩⟩), (12, .int .u64 0), (13, .agg ⟨[.string ⟨⟨[]⟩⟩, .int .u64 0]⟩), (14, .agg ⟨[.string ⟨⟨[]⟩⟩, .int .u64 0]⟩), (15, .pointer none), (16, .pointer none), (17, .pointer none), (18, .agg ⟨[.pointer none]⟩), (19, .agg ⟨[.pointer none]⟩), (20, .nilIface), (21, .int .i32 0), (22, .slice none 0 0), (23, .agg ⟨[.int .i64 0, .int .i64 0, .slice none 0 0]⟩), (24, .agg ⟨[.int .i64 0, .int .i64 0, .slice none 0 0]⟩), (25, .nilFunc), (26, .int .i64 0), (27, .nilFunc), (28, .nilFunc), (30, .nilFunc), (31, .nilFunc), (32, .nilFunc), (33, .nilFunc), (34, .agg ⟨[.int .i64 0, .int .i64 0]⟩), (35, .agg ⟨[.int .i64 0, .int .i64 0]⟩), (36, .nilFunc), (37, .nilFunc), (38, .nilFunc), (39, .nilFunc), (40, .nilFunc), (42, .nilFunc), (43, .slice none 0 0), (44, .nilFunc), (45, .nilFunc), (46, .nilFunc), (48, .nilFunc), (49, .nilFunc), (50, .nilFunc), (51, .nilFunc), (52, .pointer none), (53, .agg ⟨[.pointer none, .slice none 0 0]⟩), (54, .agg ⟨[.pointer none, .slice none 0 0]⟩), (55, .nilIface), (56, .nilIface), (58, .nilFunc), (59, .nilFunc), (60, .nilFunc), (61, .nilFunc), (63, .nilFunc), (64, .nilFunc), (65, .nilFunc), (66, .nilFunc), (67, .nilFunc), (68, .nilFunc), (69, .agg ⟨[.int .i64 0, .int .i64 0, .int .i64 0, .int .i64 0, .int .i64 0, .int .i64 0, .int .i64 0, .int .i64 0, .int .i64 0, .int .i64 0, .int .i64 0, .int .i64 0, .int .i64 0, .int .i64 0, .int .i64 0, .int .i64 0]⟩), (70, .nilFunc), (71, .pointer none), (72, .nilFunc), (73, .nilFunc), (74, .pointer none), (75, .nilFunc), (76, .nilFunc), (78, .nilFunc), (79, .nilFunc), (80, .int .u64 0), (81, .int .u32 0), (83, .nilFunc), (84, .nilFunc), (86, .agg ⟨[.int .u8 0, .int .u8 0]⟩), (87, .agg ⟨[.int .u8 0, .int .u8 0]⟩), (88, .agg ⟨[.int .u8 0, .int .u8 0, .int .u8 0, .int .u8 0, .int .u8 0, .int .u8 0, .int .u8 0, .int .u8 0, .int .u8 0, .int .u8 0, .int .u8 0, .int .u8 0, .int .u8 0, .int .u8 0, .int .u8 0, .int .u8 0, .int .u8 0, .int .u8 0, .int .u8 0, .int .u8 0, .int .u8 0, .int .u8 0, .int .u8 0, .int .u8 0, .int .u8 0, .int .u8 0, .int .u8 0, .int .u8 0, .int .u8 0, .int .u8 0, .int .u8 0, .int .u8 0]⟩), (89, .agg ⟨[.pointer none, .pointer none, .pointer none, .string ⟨⟨[]⟩⟩]⟩), (90, .agg ⟨[.pointer none, .pointer none, .pointer none, .string ⟨⟨[]⟩⟩]⟩), (91, .agg ⟨[]⟩), (92, .agg ⟨[]⟩), (93, .agg ⟨[]⟩), (94, .nilFunc), (95, .int .u8 0), (96, .int .u8 0), (97, .nilFunc), (98, .int .i32 0), (99, .int .i32 0), (100, .agg ⟨[.int .u64 0, .int .u64 0, .int .u32 0, .int .u8 0, .int .u8 0, .int .u8 0, .int .u8 0, .nilFunc, .pointer none, .int .i32 0, .int .i32 0]⟩), (101, .agg ⟨[.int .u64 0, .int .u64 0, .int .u32 0, .int .u8 0, .int .u8 0, .int .u8 0, .int .u8 0, .nilFunc, .pointer none, .int .i32 0, .int .i32 0]⟩)]
  ptr := [15, 16, 17, 52, 71]
  boo := [4]
  stc := [7, 8, 13, 14, 18, 19, 23, 24, 34, 35, 53, 54, 86, 87, 89, 90, 100, 101]
  calls := [2, 3, 4, 5, 6, 7, 8, 9, 10, 11, 12, 13, 14, 15, 16, 17, 18, 19, 20, 21, 22, 23, 24, 25, 26, 27, 28, 29, 30, 31, 32, 33, 34, 35, 36, 37, 38, 39, 40, 41, 42, 43, 44, 45, 46, 47, 48, 49, 50, 51, 52, 54, 55, 56, 58, 59, 60, 63, 64, 65, 66, 67, 92]
theorem hT : TT.Ok Tryd.prog where
  one := by kernel_rfl
  agg := by kernel_rfl
  fld := by kernel_rfl
  sl := by kernel_rfl
  arr := by kernel_rfl
  str := by kernel_rfl
  int := by kernel_rfl
  zero := by kernel_rfl
  mixed := by kernel_rfl
  ptr := by kernel_rfl
  boo := by kernel_rfl
  stc := by kernel_rfl
  calls := by kernel_rfl
def EQ : List (Nat × List CK) := [(35, [.i .i64, .i .i64])]
theorem eq_all : EQ.all (eqsB Tryd.prog) = true := by kernel_rfl
theorem ok_eq {t : Nat} {ks : List CK} (h : asc EQ t = some ks) : eqsB Tryd.prog (t, ks) = true := List.all_eq_true.1 eq_all _ (asc_mem h)
def MP : List Nat := []
theorem mp_all : MP.all (mapB Tryd.prog) = true := by kernel_rfl
theorem ok_map {t : Nat} (h : mem1 MP t = true) : mapB Tryd.prog t = true := List.all_eq_true.1 mp_all _ (mem1_mem h)
end Go.Proofs.YtkaobhgodniamaaDoor
