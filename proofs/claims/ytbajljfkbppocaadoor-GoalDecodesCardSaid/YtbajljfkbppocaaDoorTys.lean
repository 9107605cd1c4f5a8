/- What is known of the types of this seat's program, off its own tables: sizes, fields, zero values. No conditions. -/
import Derived.Test.YtbajljfkbppocaaDoorEnr
import Derived.Test.YtbajljfkbppocaaDoorProg
namespace Go.Proofs.YtbajljfkbppocaaDoor
def TT : Tys where
  one := [1, 2, 3, 4, 5, 6, 9, 10, 11, 12, 15, 16, 17, 20, 21, 26, 27, 28, 30, 31, 32, 33, 34, 35, 37, 38, 39, 40, 41, 42, 43, 44, 47, 49, 51, 53, 55, 56, 57, 58, 60, 61, 62, 64, 65, 66, 68, 69, 70, 72, 73, 74, 75, 76, 77, 79, 81, 82, 83, 85, 86, 89, 90, 92, 93, 94, 95, 100, 106, 107, 108, 109, 110, 111, 114]
  agg := [(7, 4), (8, 4), (13, 2), (14, 2), (18, 1), (19, 1), (22, 2), (23, 2), (24, 7), (25, 7), (45, 5), (54, 7), (63, 24), (78, 20), (80, 65), (87, 3), (88, 3), (96, 1), (97, 1), (98, 32), (99, 64), (101, 4), (102, 4), (103, 0), (104, 0), (105, 0), (112, 11), (113, 11)]
  fld := [(7, 0, 0, 1), (7, 1, 1, 1), (7, 2, 2, 1), (7, 3, 3, 1), (8, 0, 0, 1), (8, 1, 1, 1), (8, 2, 2, 1), (8, 3, 3, 1), (13, 0, 0, 1), (13, 1, 1, 1), (14, 0, 0, 1), (14, 1, 1, 1), (18, 0, 0, 1), (19, 0, 0, 1), (22, 0, 0, 1), (22, 1, 1, 1), (23, 0, 0, 1), (23, 1, 1, 1), (24, 0, 0, 2), (24, 1, 2, 1), (24, 2, 3, 1), (24, 3, 4, 1), (24, 4, 5, 1), (24, 5, 6, 1), (25, 0, 0, 2), (25, 1, 2, 1), (25, 2, 3, 1), (25, 3, 4, 1), (25, 4, 5, 1), (25, 5, 6, 1), (87, 0, 0, 1), (87, 1, 1, 1), (87, 2, 2, 1), (88, 0, 0, 1), (88, 1, 1, 1), (88, 2, 2, 1), (96, 0, 0, 1), (97, 0, 0, 1), (101, 0, 0, 1), (101, 1, 1, 1), (101, 2, 2, 1), (101, 3, 3, 1), (102, 0, 0, 1), (102, 1, 1, 1), (102, 2, 2, 1), (102, 3, 3, 1), (112, 0, 0, 1), (112, 1, 1, 1), (112, 2, 2, 1), (112, 3, 3, 1), (112, 4, 4, 1), (112, 5, 5, 1), (112, 6, 6, 1), (112, 7, 7, 1), (112, 8, 8, 1), (112, 9, 9, 1), (112, 10, 10, 1), (113, 0, 0, 1), (113, 1, 1, 1), (113, 2, 2, 1), (113, 3, 3, 1), (113, 4, 4, 1), (113, 5, 5, 1), (113, 6, 6, 1), (113, 7, 7, 1), (113, 8, 8, 1), (113, 9, 9, 1), (113, 10, 10, 1)]
  sl := [(35, 3, 1, 8), (55, 5, 1, 1)]
  arr := [(45, 5, 3, 1), (54, 7, 9, 1), (63, 24, 5, 1), (78, 20, 64, 1), (80, 65, 5, 1), (98, 32, 5, 1), (99, 64, 5, 1), (103, 0, 16, 1)]
  str := [9, 10, 11]
  int := [(2, .i64), (3, .i64), (5, .u8), (6, .u8), (12, .u64), (21, .i32), (28, .i64), (64, .u64), (70, .i64), (79, .u32), (81, .u64), (107, .u8), (108, .u8), (110, .i32), (111, .i32)]
  zero := [(1, .nilFunc), (2, .int .i64 0), (3, .int .i64 0), (4, .bool false), (5, .int .u8 0), (6, .int .u8 0), (7, .agg ⟨[.int .i64 0, .int .i64 0, .bool false, .int .u8 0]⟩), (8, .agg ⟨[.int .i64 0, .int .i64 0, .bool false, .int .u8 0]⟩), (9, .string ⟨⟨[]⟩⟩), (10, .string ⟨⟨[]⟩⟩), (11, .string ⟨⟨[]⟩⟩), (12, .int .u64 0), (13, .agg ⟨[.string ⟨⟨[]⟩⟩, .int .u64 0]⟩), (14, .agg ⟨[.string ⟨⟨[]⟩⟩, .int .u64 0]⟩), (15, .pointer none), (16, .pointer none), (17, .pointer none), (18, .agg ⟨[.pointer none]⟩), (19, .agg ⟨[.pointer none]⟩), (20, .nilIface), (21, .int .i32 0), (22, .agg ⟨[.int .i64 0, .int .i64 0]⟩), (23, .agg ⟨[.int .i64 0, .int .i64 0]⟩), (24, .agg ⟨[.int .i64 0, .int .i64 0, .int .i64 0, .int .i64 0, .int .i64 0, .string ⟨⟨[]⟩⟩, .string ⟨⟨[]⟩⟩]⟩), (25, .agg ⟨[.int .i64 0, .int .i64 0, .int .i64 0, .int .i64 0, .int .i64 0, .string ⟨⟨[]⟩⟩, .string ⟨⟨[]⟩⟩]⟩), (26, .nilFunc), (27, .nilFunc), (28, .int .i64 0), (30, .nilFunc), (31, .nilFunc), (32, .nilFunc), (33, .nilFunc), (34, .nilFunc), (35, .slice none 0 0), (37, .nilFunc), (38, .nilFunc), (39, .nilFunc), (40, .nilFunc), (41, .nilFunc), (42, .nilFunc), (43, .nilFunc), (44, .nilFunc), (45, .agg ⟨[.int .i64 0, .int .i64 0, .int .i64 0, .int .i64 0, .int .i64 0]⟩), (47, .nilFunc), (49, .nilFunc), (51, .nilFunc), (53, .nilFunc), (54, .agg ⟨[.string ⟨⟨[]⟩⟩, .string ⟨⟨[]⟩⟩, .string ⟨⟨[]⟩⟩, .string ⟨⟨[]⟩⟩, .string ⟨⟨[]⟩⟩, .string ⟨⟨[]⟩⟩, .string ⟨⟨[]⟩⟩]⟩), (55, .slice none 0 0), (56, .nilFunc), (57, .nilIface), (58, .nilIface), (60, .nilFunc), (61, .nilFunc), (62, .nilFunc), (63, .agg ⟨[.int .u8 0, .int .u8 0, .int .u8 0, .int .u8 0, .int .u8 0, .int .u8 0, .int .u8 0, .int .u8 0, .int .u8 0, .int .u8 0, .int .u8 0, .int .u8 0, .int .u8 0, .int .u8 0, .int .u8 0, .int .u8 0, .int .u8 0, .int .u8 0, .int .u8 0, .int .u8 0, .int .u8 0, .int .u8 0, .int .u8 0, .int .u8 0]⟩), (64, .int .u64 0), (65, .nilFunc), (66, .nilFunc), (68, .nilFunc), (69, .nilFunc), (70, .int .i64 0), (72, .nilFunc), (73, .pointer none), (74, .nilFunc), (75, .nilFunc), (76, .nilFunc), (77, .nilFunc), (78, .agg ⟨[.int .u64 0, .int .u64 0, .int .u64 0, .int .u64 0, .int .u64 0, .int .u64 0, .int .u64 0, .int .u64 0, .int .u64 0, .int .u64 0, .int .u64 0, .int .u64 0, .int .u64 0, .int .u64 0, .int .u64 0, .int .u64 0, .int .u64 0, .int .u64 0, .int .u64 0, .int .u64 0]⟩), (79, .int .u32 0), (81, .int .u64 0), (82, .nilFunc), (83, .nilFunc), (85, .nilFunc), (86, .nilFunc), (87, .agg ⟨[.string ⟨⟨[]⟩⟩, .string ⟨⟨[]⟩⟩, .nilIface]⟩), (88, .agg ⟨[.string ⟨⟨[]⟩⟩, .string ⟨⟨[]⟩⟩, .nilIface]⟩), (89, .nilFunc), (90, .nilFunc), (92, .nilFunc), (93, .nilFunc), (94, .pointer none), (95, .pointer none), (96, .agg ⟨[.string ⟨⟨[]⟩⟩]⟩), (97, .agg ⟨[.string ⟨⟨[]⟩⟩]⟩), (98, .agg ⟨[.int .u8 0, .int .u8 0, .int .u8 0, .int .u8 0, .int .u8 0, .int .u8 0, .int .u8 0, .int .u8 0, .int .u8 0, .int .u8 0, .int .u8 0, .int .u8 0, .int .u8 0, .int .u8 0, .int .u8 0, .int .u8 0, .int .u8 0, .int .u8 0, .int .u8 0, .int .u8 0, .int .u8 0, .int .u8 0, .int .u8 0, .int .u8 0, .int .u8 0, .int .u8 0, .int .u8 0, .int .u8 0, .int .u8 0, .int .u8 0, .int .u8 0, .int .u8 0]⟩), (100, .nilFunc), (101, .agg ⟨[.pointer none, .pointer none, .pointer none, .string ⟨⟨[]⟩⟩]⟩), (102, .agg ⟨[.pointer none, .pointer none, .pointer none, .string ⟨⟨[]⟩⟩]⟩), (103, .agg ⟨[]⟩), (104, .agg ⟨[]⟩), (105, .agg ⟨[]⟩), (106, .nilFunc), (107, .int .u8 0), (108, .int .u8 0), (109, .nilFunc), (110, .int .i32 0), (111, .int .i32 0), (112, .agg ⟨[.int .u64 0, .int .u64 0, .int .u32 0, .int .u8 0, .int .u8 0, .int .u8 0, .int .u8 0, .nilFunc, .pointer none, .int .i32 0, .int .i32 0]⟩), (113, .agg ⟨[.int .u64 0, .int .u64 0, .int .u32 0, .int .u8 0, .int .u8 0, .int .u8 0, .int .u8 0, .nilFunc, .pointer none, .int .i32 0, .int .i32 0]⟩), (114, .pointer none)]
  ptr := [15, 16, 17, 73, 94, 95]
  boo := [4]
  stc := [7, 8, 13, 14, 18, 19, 22, 23, 24, 25, 87, 88, 96, 97, 101, 102, 112, 113]
  calls := [2, 3, 4, 5, 6, 7, 8, 9, 10, 11, 12, 13, 14, 15, 16, 17, 18, 19, 20, 21, 22, 23, 24, 25, 26, 27, 28, 29, 30, 31, 32, 33, 34, 35, 36, 37, 38, 39, 40, 41, 42, 43, 44, 45, 46, 47, 48, 49, 50, 51, 52, 53, 54, 55, 56, 57, 58, 59, 61, 62, 63, 64, 65, 66, 67, 69, 70, 71, 99]
theorem hT : TT.Ok Tryd.prog where
  one := by kernel_rfl
  agg := by kernel_rfl
  fld := by kernel_rfl
  sl := by kernel_rfl
  arr := by kernel_rfl
  str := by kernel_rfl
  int := by kernel_rfl
  zero := by kernel_rfl
  mixed := by kernel_rfl
  ptr := by kernel_rfl
  boo := by kernel_rfl
  stc := by kernel_rfl
  calls := by kernel_rfl
def EQ : List (Nat × List CK) := [(23, [.i .i64, .i .i64]), (25, [.i .i64, .i .i64, .i .i64, .i .i64, .i .i64, .s, .s])]
theorem eq_all : EQ.all (eqsB Tryd.prog) = true := by kernel_rfl
theorem ok_eq {t : Nat} {ks : List CK} (h : asc EQ t = some ks) : eqsB Tryd.prog (t, ks) = true := List.all_eq_true.1 eq_all _ (asc_mem h)
def MP : List Nat := []
theorem mp_all : MP.all (mapB Tryd.prog) = true := by kernel_rfl
theorem ok_map {t : Nat} (h : mem1 MP t = true) : mapB Tryd.prog t = true := List.all_eq_true.1 mp_all _ (mem1_mem h)
end Go.Proofs.YtbajljfkbppocaaDoor
