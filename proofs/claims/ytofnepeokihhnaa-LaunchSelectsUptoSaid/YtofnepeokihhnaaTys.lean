/- What is known of the types of this seat's program, off its own tables: sizes, fields, zero values. No conditions. -/
import Derived.Test.YtofnepeokihhnaaEnr
import Derived.Test.YtofnepeokihhnaaProg
namespace Go.Proofs.Ytofnepeokihhnaa
def TT : Tys where
  one := [1, 2, 3, 4, 5, 6, 9, 10, 11, 12, 15, 16, 17, 20, 21, 22, 25, 26, 27, 28, 29, 30, 31, 32, 34, 35, 36, 37, 38, 40, 41, 44, 46, 47, 48, 49, 50, 51, 52, 53, 54, 56, 57, 60, 61, 65, 66, 67, 69, 70, 71, 72, 73, 74, 75, 77, 78, 79, 80, 81, 82, 83, 84, 85, 86, 87, 88, 89, 90, 91, 92, 93, 94, 95, 96, 97, 98, 99, 100, 101, 102, 104, 110, 111, 112, 113, 114]
  agg := [(7, 4), (8, 4), (13, 2), (14, 2), (18, 1), (19, 1), (23, 4), (24, 4), (42, 8), (43, 8), (58, 2), (59, 2), (62, 2), (63, 2), (105, 4), (106, 4), (107, 0), (108, 0), (109, 0), (115, 11), (116, 11)]
  fld := [(7, 0, 0, 1), (7, 1, 1, 1), (7, 2, 2, 1), (7, 3, 3, 1), (8, 0, 0, 1), (8, 1, 1, 1), (8, 2, 2, 1), (8, 3, 3, 1), (13, 0, 0, 1), (13, 1, 1, 1), (14, 0, 0, 1), (14, 1, 1, 1), (18, 0, 0, 1), (19, 0, 0, 1), (23, 0, 0, 1), (23, 1, 1, 1), (23, 2, 2, 1), (23, 3, 3, 1), (24, 0, 0, 1), (24, 1, 1, 1), (24, 2, 2, 1), (24, 3, 3, 1), (42, 0, 0, 1), (42, 1, 1, 1), (42, 2, 2, 4), (42, 3, 6, 1), (42, 4, 7, 1), (43, 0, 0, 1), (43, 1, 1, 1), (43, 2, 2, 4), (43, 3, 6, 1), (43, 4, 7, 1), (58, 0, 0, 1), (58, 1, 1, 1), (59, 0, 0, 1), (59, 1, 1, 1), (62, 0, 0, 1), (62, 1, 1, 1), (63, 0, 0, 1), (63, 1, 1, 1), (105, 0, 0, 1), (105, 1, 1, 1), (105, 2, 2, 1), (105, 3, 3, 1), (106, 0, 0, 1), (106, 1, 1, 1), (106, 2, 2, 1), (106, 3, 3, 1), (115, 0, 0, 1), (115, 1, 1, 1), (115, 2, 2, 1), (115, 3, 3, 1), (115, 4, 4, 1), (115, 5, 5, 1), (115, 6, 6, 1), (115, 7, 7, 1), (115, 8, 8, 1), (115, 9, 9, 1), (115, 10, 10, 1), (116, 0, 0, 1), (116, 1, 1, 1), (116, 2, 2, 1), (116, 3, 3, 1), (116, 4, 4, 1), (116, 5, 5, 1), (116, 6, 6, 1), (116, 7, 7, 1), (116, 8, 8, 1), (116, 9, 9, 1), (116, 10, 10, 1)]
  sl := [(22, 24, 4, 64), (25, 59, 2, 32), (36, 43, 8, 144), (37, 3, 1, 8), (38, 9, 1, 16), (61, 5, 1, 1)]
  arr := [(107, 0, 16, 1)]
  str := [9, 10, 11]
  int := [(2, .i64), (3, .i64), (5, .u8), (6, .u8), (12, .u64), (21, .i32), (32, .i64), (101, .u64), (102, .u32), (110, .u8), (111, .u8), (113, .i32), (114, .i32)]
  zero := [(1, .nilFunc), (2, .int .i64 0), (3, .int .i64 0), (4, .bool false), (5, .int .u8 0), (6, .int .u8 0), (7, .agg ⟨[.int .i64 0, .int .i64 0, .bool false, .int .u8 0]⟩), (8, .agg ⟨[.int .i64 0, .int .i64 0, .bool false, .int .u8 0]⟩), (9, .string ⟨⟨[]⟩⟩), (10, .string ⟨⟨[]⟩⟩), (11, .string ⟨⟨[]⟩⟩), (12, .int .u64 0), (13, .agg ⟨[.string ⟨⟨[]⟩⟩, .int .u64 0]⟩), (14, .agg ⟨[.string ⟨⟨[]⟩⟩, .int .u64 0]⟩), (15, .pointer none), (16, .pointer none), (17, .pointer none), (18, .agg ⟨[.pointer none]⟩), (19, .agg ⟨[.pointer none]⟩), (20, .nilIface), (21, .int .i32 0), (22, .slice none 0 0), (23, .agg ⟨[.int .i64 0, .string ⟨⟨[]⟩⟩, .string ⟨⟨[]⟩⟩, .slice none 0 0]⟩), (24, .agg ⟨[.int .i64 0, .string ⟨⟨[]⟩⟩, .string ⟨⟨[]⟩⟩, .slice none 0 0]⟩), (25, .slice none 0 0), (26, .nilFunc), (27, .nilFunc), (28, .nilFunc), (29, .nilFunc), (30, .nilFunc), (31, .nilFunc), (32, .int .i64 0), (34, .nilFunc), (35, .nilFunc), (36, .slice none 0 0), (37, .slice none 0 0), (38, .slice none 0 0), (40, .nilFunc), (41, .nilFunc), (42, .agg ⟨[.string ⟨⟨[]⟩⟩, .string ⟨⟨[]⟩⟩, .int .i64 0, .string ⟨⟨[]⟩⟩, .string ⟨⟨[]⟩⟩, .slice none 0 0, .slice none 0 0, .slice none 0 0]⟩), (43, .agg ⟨[.string ⟨⟨[]⟩⟩, .string ⟨⟨[]⟩⟩, .int .i64 0, .string ⟨⟨[]⟩⟩, .string ⟨⟨[]⟩⟩, .slice none 0 0, .slice none 0 0, .slice none 0 0]⟩), (44, .nilFunc), (46, .nilFunc), (47, .nilFunc), (48, .nilFunc), (49, .nilFunc), (50, .nilFunc), (51, .nilFunc), (52, .nilFunc), (53, .nilFunc), (54, .nilFunc), (56, .nilFunc), (57, .nilFunc), (58, .agg ⟨[.string ⟨⟨[]⟩⟩, .string ⟨⟨[]⟩⟩]⟩), (59, .agg ⟨[.string ⟨⟨[]⟩⟩, .string ⟨⟨[]⟩⟩]⟩), (60, .pointer none), (61, .slice none 0 0), (62, .agg ⟨[.pointer none, .slice none 0 0]⟩), (63, .agg ⟨[.pointer none, .slice none 0 0]⟩), (65, .nilFunc), (66, .nilIface), (67, .nilIface), (69, .nilFunc), (70, .nilFunc), (71, .nilFunc), (72, .nilFunc), (73, .nilFunc), (74, .nilFunc), (75, .nilFunc), (77, .nilFunc), (78, .nilFunc), (79, .nilFunc), (80, .nilFunc), (81, .nilFunc), (82, .nilFunc), (83, .nilFunc), (84, .nilFunc), (85, .nilFunc), (86, .nilFunc), (87, .pointer none), (88, .nilFunc), (89, .nilFunc), (90, .nilFunc), (91, .nilFunc), (92, .nilFunc), (93, .nilFunc), (94, .nilFunc), (95, .pointer none), (96, .nilFunc), (97, .nilFunc), (98, .nilFunc), (99, .nilFunc), (100, .nilFunc), (101, .int .u64 0), (102, .int .u32 0), (104, .nilFunc), (105, .agg ⟨[.pointer none, .pointer none, .pointer none, .string ⟨⟨[]⟩⟩]⟩), (106, .agg ⟨[.pointer none, .pointer none, .pointer none, .string ⟨⟨[]⟩⟩]⟩), (107, .agg ⟨[]⟩), (108, .agg ⟨[]⟩), (109, .agg ⟨[]⟩), (110, .int .u8 0), (111, .int .u8 0), (112, .nilFunc), (113, .int .i32 0), (114, .int .i32 0), (115, .agg ⟨[.int .u64 0, .int .u64 0, .int .u32 0, .int .u8 0, .int .u8 0, .int .u8 0, .int .u8 0, .nilFunc, .pointer none, .int .i32 0, .int .i32 0]⟩), (116, .agg ⟨[.int .u64 0, .int .u64 0, .int .u32 0, .int .u8 0, .int .u8 0, .int .u8 0, .int .u8 0, .nilFunc, .pointer none, .int .i32 0, .int .i32 0]⟩)]
  ptr := [15, 16, 17, 60, 87]
  boo := [4]
  stc := [7, 8, 13, 14, 18, 19, 23, 24, 42, 43, 58, 59, 62, 63, 105, 106, 115, 116]
  calls := [2, 3, 4, 5, 6, 7, 8, 9, 10, 11, 12, 13, 14, 15, 16, 17, 18, 19, 20, 21, 22, 23, 24, 25, 26, 27, 28, 29, 30, 31, 32, 33, 34, 35, 36, 37, 38, 39, 40, 41, 42, 43, 44, 45, 46, 47, 48, 49, 50, 51, 52, 53, 54, 55, 56, 57, 58, 59, 60, 61, 62, 63, 64, 65, 66, 67, 68, 69, 70, 71, 72, 73, 74, 75, 76, 78, 79, 80, 82, 83, 85]
theorem hT : TT.Ok Try.prog where
  one := by kernel_rfl
  agg := by kernel_rfl
  fld := by kernel_rfl
  sl := by kernel_rfl
  arr := by kernel_rfl
  str := by kernel_rfl
  int := by kernel_rfl
  zero := by kernel_rfl
  mixed := by kernel_rfl
  ptr := by kernel_rfl
  boo := by kernel_rfl
  stc := by kernel_rfl
  calls := by kernel_rfl
def EQ : List (Nat × List CK) := [(59, [.s, .s])]
theorem eq_all : EQ.all (eqsB Try.prog) = true := by kernel_rfl
theorem ok_eq {t : Nat} {ks : List CK} (h : asc EQ t = some ks) : eqsB Try.prog (t, ks) = true := List.all_eq_true.1 eq_all _ (asc_mem h)
def MP : List Nat := []
theorem mp_all : MP.all (mapB Try.prog) = true := by kernel_rfl
theorem ok_map {t : Nat} (h : mem1 MP t = true) : mapB Try.prog t = true := List.all_eq_true.1 mp_all _ (mem1_mem h)
end Go.Proofs.Ytofnepeokihhnaa
