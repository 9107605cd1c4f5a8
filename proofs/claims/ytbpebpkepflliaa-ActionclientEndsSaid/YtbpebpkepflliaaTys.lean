/- What is known of the types of this seat's program, off its own tables: sizes, fields, zero values. No conditions. -/
import Derived.Test.YtbpebpkepflliaaEnr
import Derived.Test.YtbpebpkepflliaaProg
namespace Go.Proofs.Ytbpebpkepflliaa
def TT : Tys where
  one := [1, 2, 3, 4, 5, 6, 9, 10, 11, 12, 15, 16, 17, 20, 21, 22, 23, 24, 25, 27, 31, 32, 33, 34, 35, 38, 39, 41, 42, 43, 44, 45, 49, 50, 51, 52, 56, 57, 58, 59, 60, 62, 63, 64, 65, 68, 71, 72, 73, 74, 77, 83, 84, 85, 86, 87, 88, 89, 90, 93]
  agg := [(7, 4), (8, 4), (13, 2), (14, 2), (18, 1), (19, 1), (28, 2), (29, 2), (36, 5), (37, 5), (46, 7), (47, 7), (53, 3), (54, 3), (61, 5), (66, 4), (67, 4), (69, 7), (70, 7), (75, 7), (76, 7), (78, 4), (79, 4), (80, 0), (81, 0), (82, 0), (91, 11), (92, 11)]
  fld := [(7, 0, 0, 1), (7, 1, 1, 1), (7, 2, 2, 1), (7, 3, 3, 1), (8, 0, 0, 1), (8, 1, 1, 1), (8, 2, 2, 1), (8, 3, 3, 1), (13, 0, 0, 1), (13, 1, 1, 1), (14, 0, 0, 1), (14, 1, 1, 1), (18, 0, 0, 1), (19, 0, 0, 1), (28, 0, 0, 1), (28, 1, 1, 1), (29, 0, 0, 1), (29, 1, 1, 1), (36, 0, 0, 1), (36, 1, 1, 2), (36, 2, 3, 1), (36, 3, 4, 1), (37, 0, 0, 1), (37, 1, 1, 2), (37, 2, 3, 1), (37, 3, 4, 1), (46, 0, 0, 1), (46, 1, 1, 1), (46, 2, 2, 1), (46, 3, 3, 1), (46, 4, 4, 1), (46, 5, 5, 1), (46, 6, 6, 1), (47, 0, 0, 1), (47, 1, 1, 1), (47, 2, 2, 1), (47, 3, 3, 1), (47, 4, 4, 1), (47, 5, 5, 1), (47, 6, 6, 1), (53, 0, 0, 1), (53, 1, 1, 1), (53, 2, 2, 1), (54, 0, 0, 1), (54, 1, 1, 1), (54, 2, 2, 1), (61, 0, 0, 1), (61, 1, 1, 2), (61, 2, 3, 1), (61, 3, 4, 1), (66, 0, 0, 1), (66, 1, 1, 1), (66, 2, 2, 1), (66, 3, 3, 1), (67, 0, 0, 1), (67, 1, 1, 1), (67, 2, 2, 1), (67, 3, 3, 1), (69, 0, 0, 1), (69, 1, 1, 1), (69, 2, 2, 1), (69, 3, 3, 1), (69, 4, 4, 1), (69, 5, 5, 1), (69, 6, 6, 1), (70, 0, 0, 1), (70, 1, 1, 1), (70, 2, 2, 1), (70, 3, 3, 1), (70, 4, 4, 1), (70, 5, 5, 1), (70, 6, 6, 1), (75, 0, 0, 1), (75, 1, 1, 1), (75, 2, 2, 1), (75, 3, 3, 1), (75, 4, 4, 1), (75, 5, 5, 1), (75, 6, 6, 1), (76, 0, 0, 1), (76, 1, 1, 1), (76, 2, 2, 1), (76, 3, 3, 1), (76, 4, 4, 1), (76, 5, 5, 1), (76, 6, 6, 1), (78, 0, 0, 1), (78, 1, 1, 1), (78, 2, 2, 1), (78, 3, 3, 1), (79, 0, 0, 1), (79, 1, 1, 1), (79, 2, 2, 1), (79, 3, 3, 1), (91, 0, 0, 1), (91, 1, 1, 1), (91, 2, 2, 1), (91, 3, 3, 1), (91, 4, 4, 1), (91, 5, 5, 1), (91, 6, 6, 1), (91, 7, 7, 1), (91, 8, 8, 1), (91, 9, 9, 1), (91, 10, 10, 1), (92, 0, 0, 1), (92, 1, 1, 1), (92, 2, 2, 1), (92, 3, 3, 1), (92, 4, 4, 1), (92, 5, 5, 1), (92, 6, 6, 1), (92, 7, 7, 1), (92, 8, 8, 1), (92, 9, 9, 1), (92, 10, 10, 1)]
  sl := [(22, 5, 1, 1), (32, 37, 5, 48), (34, 3, 1, 8), (43, 47, 7, 32), (52, 76, 7, 72), (58, 61, 5, 48)]
  arr := [(80, 0, 16, 1)]
  str := [9, 10, 11]
  int := [(2, .i64), (3, .i64), (5, .u8), (6, .u8), (12, .u64), (21, .i32), (25, .i64), (45, .i8), (84, .u32), (85, .u8), (86, .u8), (89, .i32), (90, .i32)]
  zero := [(1, .nilFunc), (2, .int .i64 0), (3, .int .i64 0), (4, .bool false), (5, .int .u8 0), (6, .int .u8 0), (7, .agg ⟨[.int .i64 0, .int .i64 0, .bool false, .int .u8 0]⟩), (8, .agg ⟨[.int .i64 0, .int .i64 0, .bool false, .int .u8 0]⟩), (9, .string ⟨⟨[]⟩⟩), (10, .string ⟨⟨[]⟩⟩), (11, .string ⟨⟨[]⟩⟩), (12, .int .u64 0), (13, .agg ⟨[.string ⟨⟨[]⟩⟩, .int .u64 0]⟩), (14, .agg ⟨[.string ⟨⟨[]⟩⟩, .int .u64 0]⟩), (15, .pointer none), (16, .pointer none), (17, .pointer none), (18, .agg ⟨[.pointer none]⟩), (19, .agg ⟨[.pointer none]⟩), (20, .nilIface), (21, .int .i32 0), (22, .slice none 0 0), (23, .nilFunc), (24, .pointer none), (25, .int .i64 0), (27, .nilFunc), (28, .agg ⟨[.int .i64 0, .int .i64 0]⟩), (29, .agg ⟨[.int .i64 0, .int .i64 0]⟩), (31, .nilFunc), (32, .slice none 0 0), (33, .nilFunc), (34, .slice none 0 0), (35, .nilFunc), (36, .agg ⟨[.int .i64 0, .int .i64 0, .int .i64 0, .int .i64 0, .string ⟨⟨[]⟩⟩]⟩), (37, .agg ⟨[.int .i64 0, .int .i64 0, .int .i64 0, .int .i64 0, .string ⟨⟨[]⟩⟩]⟩), (38, .nilFunc), (39, .nilFunc), (41, .nilFunc), (42, .nilFunc), (43, .slice none 0 0), (44, .nilFunc), (45, .int .i8 0), (46, .agg ⟨[.int .u8 0, .int .i8 0, .int .u8 0, .int .i8 0, .string ⟨⟨[]⟩⟩, .bool false, .int .u8 0]⟩), (47, .agg ⟨[.int .u8 0, .int .i8 0, .int .u8 0, .int .i8 0, .string ⟨⟨[]⟩⟩, .bool false, .int .u8 0]⟩), (49, .nilFunc), (50, .nilFunc), (51, .nilFunc), (52, .slice none 0 0), (53, .agg ⟨[.int .i64 0, .int .i64 0, .slice none 0 0]⟩), (54, .agg ⟨[.int .i64 0, .int .i64 0, .slice none 0 0]⟩), (56, .nilFunc), (57, .nilFunc), (58, .slice none 0 0), (59, .nilFunc), (60, .nilFunc), (61, .agg ⟨[.int .i64 0, .int .i64 0, .int .i64 0, .int .i64 0, .string ⟨⟨[]⟩⟩]⟩), (62, .nilFunc), (63, .nilFunc), (64, .nilFunc), (65, .map none), (66, .agg ⟨[.int .i64 0, .int .i64 0, .int .i64 0, .map none]⟩), (67, .agg ⟨[.int .i64 0, .int .i64 0, .int .i64 0, .map none]⟩), (68, .pointer none), (69, .agg ⟨[.string ⟨⟨[]⟩⟩, .string ⟨⟨[]⟩⟩, .int .i64 0, .int .i64 0, .int .i64 0, .bool false, .int .i64 0]⟩), (70, .agg ⟨[.string ⟨⟨[]⟩⟩, .string ⟨⟨[]⟩⟩, .int .i64 0, .int .i64 0, .int .i64 0, .bool false, .int .i64 0]⟩), (71, .nilFunc), (72, .nilFunc), (73, .nilFunc), (74, .pointer none), (75, .agg ⟨[.string ⟨⟨[]⟩⟩, .int .i64 0, .int .i64 0, .string ⟨⟨[]⟩⟩, .int .i64 0, .bool false, .int .i64 0]⟩), (76, .agg ⟨[.string ⟨⟨[]⟩⟩, .int .i64 0, .int .i64 0, .string ⟨⟨[]⟩⟩, .int .i64 0, .bool false, .int .i64 0]⟩), (77, .nilFunc), (78, .agg ⟨[.pointer none, .pointer none, .pointer none, .string ⟨⟨[]⟩⟩]⟩), (79, .agg ⟨[.pointer none, .pointer none, .pointer none, .string ⟨⟨[]⟩⟩]⟩), (80, .agg ⟨[]⟩), (81, .agg ⟨[]⟩), (82, .agg ⟨[]⟩), (83, .nilFunc), (84, .int .u32 0), (85, .int .u8 0), (86, .int .u8 0), (87, .nilFunc), (88, .pointer none), (89, .int .i32 0), (90, .int .i32 0), (91, .agg ⟨[.int .u64 0, .int .u64 0, .int .u32 0, .int .u8 0, .int .u8 0, .int .u8 0, .int .u8 0, .nilFunc, .pointer none, .int .i32 0, .int .i32 0]⟩), (92, .agg ⟨[.int .u64 0, .int .u64 0, .int .u32 0, .int .u8 0, .int .u8 0, .int .u8 0, .int .u8 0, .nilFunc, .pointer none, .int .i32 0, .int .i32 0]⟩), (93, .pointer none)]
  ptr := [15, 16, 17, 24, 68, 74, 88]
  boo := [4]
  stc := [7, 8, 13, 14, 18, 19, 28, 29, 36, 37, 46, 47, 53, 54, 61, 66, 67, 69, 70, 75, 76, 78, 79, 91, 92]
  calls := [2, 3, 4, 5, 6, 7, 8, 9, 10, 11, 12, 13, 14, 15, 16, 17, 18, 19, 20, 21, 22, 23, 24, 25, 26, 27, 28, 29, 30, 31, 32, 33, 34, 35, 36, 37]
theorem hT : TT.Ok Try.prog where
  one := by kernel_rfl
  agg := by kernel_rfl
  fld := by kernel_rfl
  sl := by kernel_rfl
  arr := by kernel_rfl
  str := by kernel_rfl
  int := by kernel_rfl
  zero := by kernel_rfl
  mixed := by kernel_rfl
  ptr := by kernel_rfl
  boo := by kernel_rfl
  stc := by kernel_rfl
  calls := by kernel_rfl
def EQ : List (Nat × List CK) := [(29, [.i .i64, .i .i64]), (37, [.i .i64, .i .i64, .i .i64, .i .i64, .s]), (47, [.i .u8, .i .i8, .i .u8, .i .i8, .s, .b, .i .u8]), (61, [.i .i64, .i .i64, .i .i64, .i .i64, .s]), (70, [.s, .s, .i .i64, .i .i64, .i .i64, .b, .i .i64]), (76, [.s, .i .i64, .i .i64, .s, .i .i64, .b, .i .i64])]
theorem eq_all : EQ.all (eqsB Try.prog) = true := by kernel_rfl
theorem ok_eq {t : Nat} {ks : List CK} (h : asc EQ t = some ks) : eqsB Try.prog (t, ks) = true := List.all_eq_true.1 eq_all _ (asc_mem h)
def MP : List Nat := [65]
theorem mp_all : MP.all (mapB Try.prog) = true := by kernel_rfl
theorem ok_map {t : Nat} (h : mem1 MP t = true) : mapB Try.prog t = true := List.all_eq_true.1 mp_all _ (mem1_mem h)
end Go.Proofs.Ytbpebpkepflliaa
