/- What is known of the types of this seat's program, off its own tables: sizes, fields, zero values. No conditions. -/
import Derived.Test.YtpcfmaddakhfiaaEng
import Derived.Test.YtpcfmaddakhfiaaProg
namespace Go.Proofs.Ytpcfmaddakhfiaa
def TT : Tys where
  one := [1, 2, 3, 4, 5, 6, 9, 10, 11, 12, 15, 16, 17, 20, 21, 22, 23, 24, 25, 26, 27, 29, 33, 35, 36, 39, 40, 41, 42, 43, 44, 45, 46, 47, 48, 49, 52, 53, 59, 60, 61, 62, 63, 64, 65, 68]
  agg := [(7, 4), (8, 4), (13, 2), (14, 2), (18, 1), (19, 1), (30, 8), (31, 8), (37, 4), (38, 4), (50, 6), (51, 6), (54, 4), (55, 4), (56, 0), (57, 0), (58, 0), (66, 11), (67, 11)]
  fld := [(7, 0, 0, 1), (7, 1, 1, 1), (7, 2, 2, 1), (7, 3, 3, 1), (8, 0, 0, 1), (8, 1, 1, 1), (8, 2, 2, 1), (8, 3, 3, 1), (13, 0, 0, 1), (13, 1, 1, 1), (14, 0, 0, 1), (14, 1, 1, 1), (18, 0, 0, 1), (19, 0, 0, 1), (30, 0, 0, 1), (30, 1, 1, 1), (30, 2, 2, 1), (30, 3, 3, 1), (30, 4, 4, 1), (30, 5, 5, 1), (30, 6, 6, 1), (30, 7, 7, 1), (31, 0, 0, 1), (31, 1, 1, 1), (31, 2, 2, 1), (31, 3, 3, 1), (31, 4, 4, 1), (31, 5, 5, 1), (31, 6, 6, 1), (31, 7, 7, 1), (37, 0, 0, 1), (37, 1, 1, 1), (37, 2, 2, 1), (37, 3, 3, 1), (38, 0, 0, 1), (38, 1, 1, 1), (38, 2, 2, 1), (38, 3, 3, 1), (50, 0, 0, 1), (50, 1, 1, 1), (50, 2, 2, 1), (50, 3, 3, 1), (50, 4, 4, 1), (50, 5, 5, 1), (51, 0, 0, 1), (51, 1, 1, 1), (51, 2, 2, 1), (51, 3, 3, 1), (51, 4, 4, 1), (51, 5, 5, 1), (54, 0, 0, 1), (54, 1, 1, 1), (54, 2, 2, 1), (54, 3, 3, 1), (55, 0, 0, 1), (55, 1, 1, 1), (55, 2, 2, 1), (55, 3, 3, 1), (66, 0, 0, 1), (66, 1, 1, 1), (66, 2, 2, 1), (66, 3, 3, 1), (66, 4, 4, 1), (66, 5, 5, 1), (66, 6, 6, 1), (66, 7, 7, 1), (66, 8, 8, 1), (66, 9, 9, 1), (66, 10, 10, 1), (67, 0, 0, 1), (67, 1, 1, 1), (67, 2, 2, 1), (67, 3, 3, 1), (67, 4, 4, 1), (67, 5, 5, 1), (67, 6, 6, 1), (67, 7, 7, 1), (67, 8, 8, 1), (67, 9, 9, 1), (67, 10, 10, 1)]
  sl := [(23, 38, 4, 32)]
  arr := [(56, 0, 16, 1)]
  str := [9, 10, 11]
  int := [(2, .i64), (3, .i64), (5, .u8), (6, .u8), (12, .u64), (21, .i32), (22, .u16), (27, .i64), (36, .i16), (59, .u32), (60, .u8), (61, .u8), (64, .i32), (65, .i32)]
  zero := [(1, .nilFunc), (2, .int .i64 0), (3, .int .i64 0), (4, .bool false), (5, .int .u8 0), (6, .int .u8 0), (7, .agg ⟨[.int .i64 0, .int .i64 0, .bool false, .int .u8 0]⟩), (8, .agg ⟨[.int .i64 0, .int .i64 0, .bool false, .int .u8 0]⟩), (9, .string ⟨⟨[]⟩⟩), (10, .string ⟨⟨[]⟩⟩), (11, .string ⟨⟨[]⟩⟩), (12, .int .u64 0), (13, .agg ⟨[.string ⟨⟨[]⟩⟩, .int .u64 0]⟩), (14, .agg ⟨[.string ⟨⟨[]⟩⟩, .int .u64 0]⟩), (15, .pointer none), (16, .pointer none), (17, .pointer none), (18, .agg ⟨[.pointer none]⟩), (19, .agg ⟨[.pointer none]⟩), (20, .nilIface), (21, .int .i32 0), (22, .int .u16 0), (23, .slice none 0 0), (24, .nilFunc), (25, .nilFunc), (26, .pointer none), (27, .int .i64 0), (29, .nilFunc), (30, .agg ⟨[.int .i64 0, .string ⟨⟨[]⟩⟩, .int .i64 0, .bool false, .bool false, .int .i64 0, .int .i64 0, .int .i64 0]⟩), (31, .agg ⟨[.int .i64 0, .string ⟨⟨[]⟩⟩, .int .i64 0, .bool false, .bool false, .int .i64 0, .int .i64 0, .int .i64 0]⟩), (33, .nilFunc), (35, .nilFunc), (36, .int .i16 0), (37, .agg ⟨[.int .u8 0, .string ⟨⟨[]⟩⟩, .int .i16 0, .int .i16 0]⟩), (38, .agg ⟨[.int .u8 0, .string ⟨⟨[]⟩⟩, .int .i16 0, .int .i16 0]⟩), (39, .nilFunc), (40, .pointer none), (41, .nilFunc), (42, .nilFunc), (43, .nilFunc), (44, .nilFunc), (45, .nilFunc), (46, .nilFunc), (47, .nilFunc), (48, .nilFunc), (49, .nilFunc), (50, .agg ⟨[.int .i64 0, .int .i64 0, .string ⟨⟨[]⟩⟩, .bool false, .int .i64 0, .int .i64 0]⟩), (51, .agg ⟨[.int .i64 0, .int .i64 0, .string ⟨⟨[]⟩⟩, .bool false, .int .i64 0, .int .i64 0]⟩), (52, .nilFunc), (53, .nilFunc), (54, .agg ⟨[.pointer none, .pointer none, .pointer none, .string ⟨⟨[]⟩⟩]⟩), (55, .agg ⟨[.pointer none, .pointer none, .pointer none, .string ⟨⟨[]⟩⟩]⟩), (56, .agg ⟨[]⟩), (57, .agg ⟨[]⟩), (58, .agg ⟨[]⟩), (59, .int .u32 0), (60, .int .u8 0), (61, .int .u8 0), (62, .nilFunc), (63, .pointer none), (64, .int .i32 0), (65, .int .i32 0), (66, .agg ⟨[.int .u64 0, .int .u64 0, .int .u32 0, .int .u8 0, .int .u8 0, .int .u8 0, .int .u8 0, .nilFunc, .pointer none, .int .i32 0, .int .i32 0]⟩), (67, .agg ⟨[.int .u64 0, .int .u64 0, .int .u32 0, .int .u8 0, .int .u8 0, .int .u8 0, .int .u8 0, .nilFunc, .pointer none, .int .i32 0, .int .i32 0]⟩), (68, .pointer none)]
theorem hT : TT.Ok Try.prog where
  one := by kernel_rfl
  agg := by kernel_rfl
  fld := by kernel_rfl
  sl := by kernel_rfl
  arr := by kernel_rfl
  str := by kernel_rfl
  int := by kernel_rfl
  zero := by kernel_rfl
  mixed := by kernel_rfl
end Go.Proofs.Ytpcfmaddakhfiaa
