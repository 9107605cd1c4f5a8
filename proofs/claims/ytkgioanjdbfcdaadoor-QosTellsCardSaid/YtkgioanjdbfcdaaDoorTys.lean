/- What is known of the types of this seat's program, off its own tables: sizes, fields, zero values. No conditions. -/
import Derived.Test.YtkgioanjdbfcdaaDoorEnr
import Derived.Test.YtkgioanjdbfcdaaDoorProg
namespace Go.Proofs.YtkgioanjdbfcdaaDoor
def TT : Tys where
  one := [1, 2, 3, 4, 5, 6, 9, 10, 11, 12, 15, 16, 17, 20, 21, 24, 25, 26, 27, 28, 29, 30, 31, 33, 34, 35, 36, 37, 38, 39, 40, 42, 43, 44, 46, 47, 48, 49, 51, 52, 53, 54, 55, 56, 57, 58, 59, 61, 62, 63, 65, 66, 67, 69, 70, 71, 72, 74, 76, 82, 83, 86, 92, 93, 94, 95, 96, 97, 98, 101]
  agg := [(7, 4), (8, 4), (13, 2), (14, 2), (18, 1), (19, 1), (22, 7), (23, 7), (64, 24), (73, 20), (75, 65), (77, 256), (78, 2), (79, 2), (80, 32), (84, 32), (85, 64), (87, 4), (88, 4), (89, 0), (90, 0), (91, 0), (99, 11), (100, 11)]
  fld := [(7, 0, 0, 1), (7, 1, 1, 1), (7, 2, 2, 1), (7, 3, 3, 1), (8, 0, 0, 1), (8, 1, 1, 1), (8, 2, 2, 1), (8, 3, 3, 1), (13, 0, 0, 1), (13, 1, 1, 1), (14, 0, 0, 1), (14, 1, 1, 1), (18, 0, 0, 1), (19, 0, 0, 1), (22, 0, 0, 1), (22, 1, 1, 1), (22, 2, 2, 1), (22, 3, 3, 1), (22, 4, 4, 1), (22, 5, 5, 1), (22, 6, 6, 1), (23, 0, 0, 1), (23, 1, 1, 1), (23, 2, 2, 1), (23, 3, 3, 1), (23, 4, 4, 1), (23, 5, 5, 1), (23, 6, 6, 1), (78, 0, 0, 1), (78, 1, 1, 1), (79, 0, 0, 1), (79, 1, 1, 1), (87, 0, 0, 1), (87, 1, 1, 1), (87, 2, 2, 1), (87, 3, 3, 1), (88, 0, 0, 1), (88, 1, 1, 1), (88, 2, 2, 1), (88, 3, 3, 1), (99, 0, 0, 1), (99, 1, 1, 1), (99, 2, 2, 1), (99, 3, 3, 1), (99, 4, 4, 1), (99, 5, 5, 1), (99, 6, 6, 1), (99, 7, 7, 1), (99, 8, 8, 1), (99, 9, 9, 1), (99, 10, 10, 1), (100, 0, 0, 1), (100, 1, 1, 1), (100, 2, 2, 1), (100, 3, 3, 1), (100, 4, 4, 1), (100, 5, 5, 1), (100, 6, 6, 1), (100, 7, 7, 1), (100, 8, 8, 1), (100, 9, 9, 1), (100, 10, 10, 1)]
  sl := [(36, 3, 1, 8), (40, 9, 1, 16), (55, 5, 1, 1)]
  arr := [(64, 24, 5, 1), (73, 20, 65, 1), (75, 65, 5, 1), (77, 256, 5, 1), (80, 16, 79, 2), (84, 32, 5, 1), (85, 64, 5, 1), (89, 0, 16, 1)]
  str := [9, 10, 11]
  int := [(2, .i64), (3, .i64), (5, .u8), (6, .u8), (12, .u64), (21, .i32), (24, .i64), (65, .u64), (71, .u64), (74, .u32), (93, .u8), (94, .u8), (97, .i32), (98, .i32)]
  zero := [(1, .nilFunc), (2, .int .i64 0), (3, .int .i64 0), (4, .bool false), (5, .int .u8 0), (6, .int .u8 0), (7, .agg ⟨[.int .i64 0, .int .i64 0, .bool false, .int .u8 0]⟩), (8, .agg ⟨[.int .i64 0, .int .i64 0, .bool false, .int .u8 0]⟩), (9, .string ⟨⟨[]⟩⟩), (10, .string ⟨⟨[]⟩⟩), (11, .string ⟨⟨[]⟩⟩), (12, .int .u64 0), (13, .agg ⟨[.string ⟨⟨[]⟩⟩, .int .u64 0]⟩), (14, .agg ⟨[.string ⟨⟨[]⟩⟩, .int .u64 0]⟩), (15, .pointer none), (16, .pointer none), (17, .pointer none), (18, .agg ⟨[.pointer none]⟩), (19, .agg ⟨[.pointer none]⟩), (20, .nilIface), (21, .int .i32 0), (22, .agg ⟨[.bool false, .bool false, .bool false, .int .i64 0, .int .i64 0, .int .i64 0, .int .i64 0]⟩), (23, .agg ⟨[.bool false, .bool false, .bool false, .int .i64 0, .int .i64 0, .int .i64 0, .int .i64 0]⟩), (24, .int .i64 0), (25, .nilFunc), (26, .nilFunc), (27, .nilFunc), (28, .nilFunc), (29, .nilFunc), (30, .nilFunc), (31, .nilFunc), (33, .nilFunc), (34, .nilFunc), (35, .nilFunc), (36, .slice none 0 0), (37, .nilFunc), (38, .nilFunc), (39, .nilFunc), (40, .slice none 0 0), (42, .nilFunc), (43, .nilFunc), (44, .nilFunc), (46, .nilFunc), (47, .nilFunc), (48, .nilFunc), (49, .nilFunc), (51, .nilFunc), (52, .nilFunc), (53, .nilFunc), (54, .nilFunc), (55, .slice none 0 0), (56, .nilFunc), (57, .nilFunc), (58, .nilFunc), (59, .nilFunc), (61, .nilFunc), (62, .nilFunc), (63, .nilFunc), (64, .agg ⟨[.int .u8 0, .int .u8 0, .int .u8 0, .int .u8 0, .int .u8 0, .int .u8 0, .int .u8 0, .int .u8 0, .int .u8 0, .int .u8 0, .int .u8 0, .int .u8 0, .int .u8 0, .int .u8 0, .int .u8 0, .int .u8 0, .int .u8 0, .int .u8 0, .int .u8 0, .int .u8 0, .int .u8 0, .int .u8 0, .int .u8 0, .int .u8 0]⟩), (65, .int .u64 0), (66, .nilFunc), (67, .nilFunc), (69, .nilFunc), (70, .nilFunc), (71, .int .u64 0), (72, .nilFunc), (73, .agg ⟨[.int .u64 0, .int .u64 0, .int .u64 0, .int .u64 0, .int .u64 0, .int .u64 0, .int .u64 0, .int .u64 0, .int .u64 0, .int .u64 0, .int .u64 0, .int .u64 0, .int .u64 0, .int .u64 0, .int .u64 0, .int .u64 0, .int .u64 0, .int .u64 0, .int .u64 0, .int .u64 0]⟩), (74, .int .u32 0), (76, .nilFunc), (78, .agg ⟨[.int .u8 0, .int .u8 0]⟩), (79, .agg ⟨[.int .u8 0, .int .u8 0]⟩), (80, .agg ⟨[.int .u8 0, .int .u8 0, .int .u8 0, .int .u8 0, .int .u8 0, .int .u8 0, .int .u8 0, .int .u8 0, .int .u8 0, .int .u8 0, .int .u8 0, .int .u8 0, .int .u8 0, .int .u8 0, .int .u8 0, .int .u8 0, .int .u8 0, .int .u8 0, .int .u8 0, .int .u8 0, .int .u8 0, .int .u8 0, .int .u8 0, .int .u8 0, .int .u8 0, .int .u8 0, .int .u8 0, .int .u8 0, .int .u8 0, .int .u8 0, .int .u8 0, .int .u8 0]⟩), (82, .nilFunc), (83, .nilFunc), (84, .agg ⟨[.int .u8 0, .int .u8 0, .int .u8 0, .int .u8 0, .int .u8 0, .int .u8 0, .int .u8 0, .int .u8 0, .int .u8 0, .int .u8 0, .int .u8 0, .int .u8 0, .int .u8 0, .int .u8 0, .int .u8 0, .int .u8 0, .int .u8 0, .int .u8 0, .int .u8 0, .int .u8 0, .int .u8 0, .int .u8 0, .int .u8 0, .int .u8 0, .int .u8 0, .int .u8 0, .int .u8 0, .int .u8 0, .int .u8 0, .int .u8 0, .int .u8 0, .int .u8 0]⟩), (86, .nilFunc), (87, .agg ⟨[.pointer none, .pointer none, .pointer none, .string ⟨⟨[]⟩⟩]⟩), (88, .agg ⟨[.pointer none, .pointer none, .pointer none, .string ⟨⟨[]⟩⟩]⟩), (89, .agg ⟨[]⟩), (90, .agg ⟨[]⟩), (91, .agg ⟨[]⟩), (92, .nilFunc), (93, .int .u8 0), (94, .int .u8 0), (95, .nilFunc), (96, .pointer none), (97, .int .i32 0), (98, .int .i32 0), (99, .agg ⟨[.int .u64 0, .int .u64 0, .int .u32 0, .int .u8 0, .int .u8 0, .int .u8 0, .int .u8 0, .nilFunc, .pointer none, .int .i32 0, .int .i32 0]⟩), (100, .agg ⟨[.int .u64 0, .int .u64 0, .int .u32 0, .int .u8 0, .int .u8 0, .int .u8 0, .int .u8 0, .nilFunc, .pointer none, .int .i32 0, .int .i32 0]⟩), (101, .pointer none)]
  ptr := [15, 16, 17, 96]
  boo := [4]
  stc := [7, 8, 13, 14, 18, 19, 22, 23, 78, 79, 87, 88, 99, 100]
  calls := [2, 3, 4, 5, 6, 7, 8, 9, 10, 11, 12, 13, 14, 15, 16, 17, 18, 19, 20, 21, 22, 23, 24, 25, 26, 27, 28, 29, 30, 31, 32, 33, 34, 35, 36, 37, 38, 39, 40, 41, 42, 43, 44, 45, 46, 47, 48, 50, 51, 52, 53, 54, 55, 56, 57, 59, 60, 61, 62, 63, 64, 65, 67, 68, 69, 94]
theorem hT : TT.Ok Tryd.prog where
  one := by kernel_rfl
  agg := by kernel_rfl
  fld := by kernel_rfl
  sl := by kernel_rfl
  arr := by kernel_rfl
  str := by kernel_rfl
  int := by kernel_rfl
  zero := by kernel_rfl
  mixed := by kernel_rfl
  ptr := by kernel_rfl
  boo := by kernel_rfl
  stc := by kernel_rfl
  calls := by kernel_rfl
def EQ : List (Nat × List CK) := [(23, [.b, .b, .b, .i .i64, .i .i64, .i .i64, .i .i64])]
theorem eq_all : EQ.all (eqsB Tryd.prog) = true := by kernel_rfl
theorem ok_eq {t : Nat} {ks : List CK} (h : asc EQ t = some ks) : eqsB Tryd.prog (t, ks) = true := List.all_eq_true.1 eq_all _ (asc_mem h)
def MP : List Nat := []
theorem mp_all : MP.all (mapB Tryd.prog) = true := by kernel_rfl
theorem ok_map {t : Nat} (h : mem1 MP t = true) : mapB Tryd.prog t = true := List.all_eq_true.1 mp_all _ (mem1_mem h)
end Go.Proofs.YtkgioanjdbfcdaaDoor
