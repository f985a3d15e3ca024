/- The type table of this seat, by gen_tt.py. -/
import Derived.Test.YtjgohkogcdmbdaaVxA
import Derived.Test.YtjgohkogcdmbdaaChecked
import Derived.KernelRfl
namespace Go.Vx
open Go.Proofs
def tt : List (Nat × TI) := [
  (1, ⟨1, false, 8, [.nilFunc], .func⟩),
  (2, ⟨1, false, 8, [.int .i64 0], .int .i64⟩),
  (3, ⟨1, false, 8, [.int .i64 0], .int .i64⟩),
  (4, ⟨1, false, 1, [.bool false], .bool⟩),
  (5, ⟨1, false, 1, [.int .u8 0], .int .u8⟩),
  (6, ⟨1, false, 1, [.int .u8 0], .int .u8⟩),
  (7, ⟨4, true, 24, [.int .i64 0, .int .i64 0, .bool false, .int .u8 0], .strct [(0, 2), (1, 3), (2, 4), (3, 6)]⟩),
  (8, ⟨4, true, 24, [.int .i64 0, .int .i64 0, .bool false, .int .u8 0], .strct [(0, 2), (1, 3), (2, 4), (3, 6)]⟩),
  (9, ⟨1, false, 16, [.string ⟨#[]⟩], .str⟩),
  (10, ⟨1, false, 16, [.string ⟨#[]⟩], .str⟩),
  (11, ⟨1, false, 16, [.string ⟨#[]⟩], .str⟩),
  (12, ⟨1, false, 8, [.int .u64 0], .int .u64⟩),
  (13, ⟨2, true, 24, [.string ⟨#[]⟩, .int .u64 0], .strct [(0, 9), (1, 12)]⟩),
  (14, ⟨2, true, 24, [.string ⟨#[]⟩, .int .u64 0], .strct [(0, 9), (1, 12)]⟩),
  (15, ⟨1, false, 8, [.pointer none], .ptr 114⟩),
  (16, ⟨1, false, 8, [.pointer none], .ptr 117⟩),
  (17, ⟨1, false, 8, [.pointer none], .ptr 127⟩),
  (18, ⟨1, true, 8, [.pointer none], .strct [(0, 17)]⟩),
  (19, ⟨1, true, 8, [.pointer none], .strct [(0, 17)]⟩),
  (20, ⟨1, false, 16, [.nilIface], .iface⟩),
  (21, ⟨1, false, 4, [.int .i32 0], .int .i32⟩),
  (22, ⟨1, false, 24, [.slice none 0 0], .slice 90⟩),
  (23, ⟨3, true, 56, [.string ⟨#[]⟩, .string ⟨#[]⟩, .slice none 0 0], .strct [(0, 9), (1, 9), (2, 22)]⟩),
  (24, ⟨3, true, 56, [.string ⟨#[]⟩, .string ⟨#[]⟩, .slice none 0 0], .strct [(0, 9), (1, 9), (2, 22)]⟩),
  (25, ⟨1, false, 8, [.nilFunc], .func⟩),
  (26, ⟨1, false, 8, [.nilFunc], .func⟩),
  (27, ⟨1, false, 24, [.slice none 0 0], .slice 66⟩),
  (28, ⟨3, true, 56, [.string ⟨#[]⟩, .string ⟨#[]⟩, .slice none 0 0], .strct [(0, 9), (1, 9), (2, 27)]⟩),
  (29, ⟨3, true, 56, [.string ⟨#[]⟩, .string ⟨#[]⟩, .slice none 0 0], .strct [(0, 9), (1, 9), (2, 27)]⟩),
  (30, ⟨1, false, 8, [.nilFunc], .func⟩),
  (31, ⟨1, false, 8, [.nilFunc], .func⟩),
  (32, ⟨1, false, 8, [.nilFunc], .func⟩),
  (34, ⟨1, false, 8, [.nilFunc], .func⟩),
  (35, ⟨1, false, 8, [.nilFunc], .func⟩),
  (36, ⟨1, false, 8, [.nilFunc], .func⟩),
  (37, ⟨1, false, 24, [.slice none 0 0], .slice 45⟩),
  (38, ⟨1, false, 8, [.nilFunc], .func⟩),
  (39, ⟨1, false, 8, [.nilFunc], .func⟩),
  (40, ⟨1, false, 24, [.slice none 0 0], .slice 50⟩),
  (41, ⟨1, false, 8, [.nilFunc], .func⟩),
  (42, ⟨1, false, 8, [.nilFunc], .func⟩),
  (43, ⟨1, false, 8, [.nilFunc], .func⟩),
  (44, ⟨4, true, 56, [.int .i64 0, .int .i64 0, .string ⟨#[]⟩, .slice none 0 0], .strct [(0, 3), (1, 3), (2, 9), (3, 37)]⟩),
  (45, ⟨4, true, 56, [.int .i64 0, .int .i64 0, .string ⟨#[]⟩, .slice none 0 0], .strct [(0, 3), (1, 3), (2, 9), (3, 37)]⟩),
  (46, ⟨1, false, 24, [.slice none 0 0], .slice 77⟩),
  (47, ⟨1, false, 8, [.nilFunc], .func⟩),
  (48, ⟨1, false, 8, [.nilFunc], .func⟩),
  (49, ⟨4, true, 56, [.int .i64 0, .int .i64 0, .string ⟨#[]⟩, .slice none 0 0], .strct [(0, 3), (1, 3), (2, 9), (3, 40)]⟩),
  (50, ⟨4, true, 56, [.int .i64 0, .int .i64 0, .string ⟨#[]⟩, .slice none 0 0], .strct [(0, 3), (1, 3), (2, 9), (3, 40)]⟩),
  (52, ⟨1, false, 8, [.nilFunc], .func⟩),
  (53, ⟨1, false, 8, [.nilFunc], .func⟩),
  (54, ⟨1, false, 24, [.slice none 0 0], .slice 82⟩),
  (55, ⟨1, false, 8, [.nilFunc], .func⟩),
  (56, ⟨1, false, 8, [.nilFunc], .func⟩),
  (57, ⟨1, false, 8, [.nilFunc], .func⟩),
  (58, ⟨1, false, 8, [.nilFunc], .func⟩),
  (59, ⟨1, false, 8, [.nilFunc], .func⟩),
  (60, ⟨1, false, 8, [.nilFunc], .func⟩),
  (61, ⟨1, false, 8, [.nilFunc], .func⟩),
  (62, ⟨1, false, 8, [.nilFunc], .func⟩),
  (63, ⟨1, false, 8, [.nilFunc], .func⟩),
  (64, ⟨1, false, 8, [.nilFunc], .func⟩),
  (65, ⟨3, true, 24, [.int .i64 0, .int .i64 0, .bool false], .strct [(0, 3), (1, 3), (2, 4)]⟩),
  (66, ⟨3, true, 24, [.int .i64 0, .int .i64 0, .bool false], .strct [(0, 3), (1, 3), (2, 4)]⟩),
  (67, ⟨1, false, 8, [.nilFunc], .func⟩),
  (68, ⟨1, false, 8, [.nilFunc], .func⟩),
  (69, ⟨1, false, 8, [.nilFunc], .func⟩),
  (70, ⟨1, false, 8, [.nilFunc], .func⟩),
  (71, ⟨1, false, 8, [.nilFunc], .func⟩),
  (72, ⟨1, false, 8, [.nilFunc], .func⟩),
  (73, ⟨1, false, 8, [.nilFunc], .func⟩),
  (74, ⟨1, false, 8, [.nilFunc], .func⟩),
  (75, ⟨1, false, 8, [.nilFunc], .func⟩),
  (76, ⟨5, true, 64, [.int .i64 0, .int .i64 0, .int .i64 0, .string ⟨#[]⟩, .slice none 0 0], .strct [(0, 3), (1, 45)]⟩),
  (77, ⟨5, true, 64, [.int .i64 0, .int .i64 0, .int .i64 0, .string ⟨#[]⟩, .slice none 0 0], .strct [(0, 3), (1, 45)]⟩),
  (78, ⟨1, false, 8, [.nilFunc], .func⟩),
  (79, ⟨1, false, 8, [.nilFunc], .func⟩),
  (80, ⟨1, false, 8, [.nilFunc], .func⟩),
  (81, ⟨5, true, 64, [.int .i64 0, .int .i64 0, .int .i64 0, .string ⟨#[]⟩, .slice none 0 0], .strct [(0, 3), (1, 50)]⟩),
  (82, ⟨5, true, 64, [.int .i64 0, .int .i64 0, .int .i64 0, .string ⟨#[]⟩, .slice none 0 0], .strct [(0, 3), (1, 50)]⟩),
  (83, ⟨1, false, 8, [.nilFunc], .func⟩),
  (84, ⟨1, false, 8, [.nilFunc], .func⟩),
  (85, ⟨1, false, 8, [.nilFunc], .func⟩),
  (86, ⟨1, false, 8, [.nilFunc], .func⟩),
  (87, ⟨1, false, 8, [.nilFunc], .func⟩),
  (88, ⟨1, false, 24, [.slice none 0 0], .slice 9⟩),
  (89, ⟨1, false, 8, [.nilFunc], .func⟩),
  (90, ⟨3, true, 24, [.int .i64 0, .int .i64 0, .bool false], .strct [(0, 3), (1, 3), (2, 4)]⟩),
  (91, ⟨1, false, 8, [.nilFunc], .func⟩),
  (92, ⟨1, false, 24, [.slice none 0 0], .slice 3⟩),
  (93, ⟨1, false, 8, [.nilFunc], .func⟩),
  (94, ⟨1, false, 8, [.nilFunc], .func⟩),
  (95, ⟨1, false, 8, [.nilFunc], .func⟩),
  (96, ⟨1, false, 8, [.nilFunc], .func⟩),
  (97, ⟨1, false, 8, [.nilFunc], .func⟩),
  (98, ⟨1, false, 8, [.nilFunc], .func⟩),
  (99, ⟨1, false, 24, [.slice none 0 0], .slice 5⟩),
  (100, ⟨1, false, 8, [.nilFunc], .func⟩),
  (101, ⟨1, false, 8, [.nilFunc], .func⟩),
  (102, ⟨1, false, 8, [.nilFunc], .func⟩),
  (103, ⟨1, false, 8, [.nilFunc], .func⟩),
  (104, ⟨1, false, 8, [.nilFunc], .func⟩),
  (105, ⟨1, false, 8, [.nilFunc], .func⟩),
  (106, ⟨1, false, 8, [.nilFunc], .func⟩),
  (107, ⟨1, false, 8, [.nilFunc], .func⟩),
  (108, ⟨1, false, 8, [.nilFunc], .func⟩),
  (109, ⟨1, false, 8, [.nilFunc], .func⟩),
  (110, ⟨1, false, 8, [.nilFunc], .func⟩),
  (111, ⟨1, false, 8, [.int .u64 0], .int .u64⟩),
  (112, ⟨1, false, 8, [.nilFunc], .func⟩),
  (113, ⟨4, true, 40, [.pointer none, .pointer none, .pointer none, .string ⟨#[]⟩], .strct [(0, 17), (1, 17), (2, 17), (3, 9)]⟩),
  (114, ⟨4, true, 40, [.pointer none, .pointer none, .pointer none, .string ⟨#[]⟩], .strct [(0, 17), (1, 17), (2, 17), (3, 9)]⟩),
  (116, ⟨0, true, 0, [], .strct [(0, 115)]⟩),
  (117, ⟨0, true, 0, [], .strct [(0, 115)]⟩),
  (118, ⟨1, false, 8, [.nilFunc], .func⟩),
  (119, ⟨1, false, 4, [.int .u32 0], .int .u32⟩),
  (120, ⟨1, false, 1, [.int .u8 0], .int .u8⟩),
  (121, ⟨1, false, 1, [.int .u8 0], .int .u8⟩),
  (122, ⟨1, false, 8, [.nilFunc], .func⟩),
  (123, ⟨1, false, 8, [.pointer none], .ptr 5⟩),
  (124, ⟨1, false, 4, [.int .i32 0], .int .i32⟩),
  (125, ⟨1, false, 4, [.int .i32 0], .int .i32⟩),
  (126, ⟨11, true, 48, [.int .u64 0, .int .u64 0, .int .u32 0, .int .u8 0, .int .u8 0, .int .u8 0, .int .u8 0, .nilFunc, .pointer none, .int .i32 0, .int .i32 0], .strct [(0, 12), (1, 12), (2, 119), (3, 120), (4, 5), (5, 5), (6, 121), (7, 122), (8, 123), (9, 124), (10, 125)]⟩),
  (127, ⟨11, true, 48, [.int .u64 0, .int .u64 0, .int .u32 0, .int .u8 0, .int .u8 0, .int .u8 0, .int .u8 0, .nilFunc, .pointer none, .int .i32 0, .int .i32 0], .strct [(0, 12), (1, 12), (2, 119), (3, 120), (4, 5), (5, 5), (6, 121), (7, 122), (8, 123), (9, 124), (10, 125)]⟩)]
theorem ti1 : TIok Try.prog 1 ⟨1, false, 8, [.nilFunc], .func⟩ := ⟨by kernel_rfl, by kernel_rfl, by kernel_rfl, rfl, trivial⟩
theorem ti2 : TIok Try.prog 2 ⟨1, false, 8, [.int .i64 0], .int .i64⟩ := ⟨by kernel_rfl, by kernel_rfl, by kernel_rfl, rfl, by show _ = _; kernel_rfl⟩
theorem ti3 : TIok Try.prog 3 ⟨1, false, 8, [.int .i64 0], .int .i64⟩ := ⟨by kernel_rfl, by kernel_rfl, by kernel_rfl, rfl, by show _ = _; kernel_rfl⟩
theorem ti4 : TIok Try.prog 4 ⟨1, false, 1, [.bool false], .bool⟩ := ⟨by kernel_rfl, by kernel_rfl, by kernel_rfl, rfl, by show _ = _; kernel_rfl⟩
theorem ti5 : TIok Try.prog 5 ⟨1, false, 1, [.int .u8 0], .int .u8⟩ := ⟨by kernel_rfl, by kernel_rfl, by kernel_rfl, rfl, by show _ = _; kernel_rfl⟩
theorem ti6 : TIok Try.prog 6 ⟨1, false, 1, [.int .u8 0], .int .u8⟩ := ⟨by kernel_rfl, by kernel_rfl, by kernel_rfl, rfl, by show _ = _; kernel_rfl⟩
theorem ti7 : TIok Try.prog 7 ⟨4, true, 24, [.int .i64 0, .int .i64 0, .bool false, .int .u8 0], .strct [(0, 2), (1, 3), (2, 4), (3, 6)]⟩ := ⟨by kernel_rfl, by kernel_rfl, by kernel_rfl, rfl, ⟨by kernel_rfl, by kernel_rfl⟩⟩
theorem ti8 : TIok Try.prog 8 ⟨4, true, 24, [.int .i64 0, .int .i64 0, .bool false, .int .u8 0], .strct [(0, 2), (1, 3), (2, 4), (3, 6)]⟩ := ⟨by kernel_rfl, by kernel_rfl, by kernel_rfl, rfl, ⟨by kernel_rfl, by kernel_rfl⟩⟩
theorem ti9 : TIok Try.prog 9 ⟨1, false, 16, [.string ⟨#[]⟩], .str⟩ := ⟨by kernel_rfl, by kernel_rfl, by kernel_rfl, rfl, by show _ = _; kernel_rfl⟩
theorem ti10 : TIok Try.prog 10 ⟨1, false, 16, [.string ⟨#[]⟩], .str⟩ := ⟨by kernel_rfl, by kernel_rfl, by kernel_rfl, rfl, by show _ = _; kernel_rfl⟩
theorem ti11 : TIok Try.prog 11 ⟨1, false, 16, [.string ⟨#[]⟩], .str⟩ := ⟨by kernel_rfl, by kernel_rfl, by kernel_rfl, rfl, by show _ = _; kernel_rfl⟩
theorem ti12 : TIok Try.prog 12 ⟨1, false, 8, [.int .u64 0], .int .u64⟩ := ⟨by kernel_rfl, by kernel_rfl, by kernel_rfl, rfl, by show _ = _; kernel_rfl⟩
theorem ti13 : TIok Try.prog 13 ⟨2, true, 24, [.string ⟨#[]⟩, .int .u64 0], .strct [(0, 9), (1, 12)]⟩ := ⟨by kernel_rfl, by kernel_rfl, by kernel_rfl, rfl, ⟨by kernel_rfl, by kernel_rfl⟩⟩
theorem ti14 : TIok Try.prog 14 ⟨2, true, 24, [.string ⟨#[]⟩, .int .u64 0], .strct [(0, 9), (1, 12)]⟩ := ⟨by kernel_rfl, by kernel_rfl, by kernel_rfl, rfl, ⟨by kernel_rfl, by kernel_rfl⟩⟩
theorem ti15 : TIok Try.prog 15 ⟨1, false, 8, [.pointer none], .ptr 114⟩ := ⟨by kernel_rfl, by kernel_rfl, by kernel_rfl, rfl, by show _ = _; kernel_rfl⟩
theorem ti16 : TIok Try.prog 16 ⟨1, false, 8, [.pointer none], .ptr 117⟩ := ⟨by kernel_rfl, by kernel_rfl, by kernel_rfl, rfl, by show _ = _; kernel_rfl⟩
theorem ti17 : TIok Try.prog 17 ⟨1, false, 8, [.pointer none], .ptr 127⟩ := ⟨by kernel_rfl, by kernel_rfl, by kernel_rfl, rfl, by show _ = _; kernel_rfl⟩
theorem ti18 : TIok Try.prog 18 ⟨1, true, 8, [.pointer none], .strct [(0, 17)]⟩ := ⟨by kernel_rfl, by kernel_rfl, by kernel_rfl, rfl, ⟨by kernel_rfl, by kernel_rfl⟩⟩
theorem ti19 : TIok Try.prog 19 ⟨1, true, 8, [.pointer none], .strct [(0, 17)]⟩ := ⟨by kernel_rfl, by kernel_rfl, by kernel_rfl, rfl, ⟨by kernel_rfl, by kernel_rfl⟩⟩
theorem ti20 : TIok Try.prog 20 ⟨1, false, 16, [.nilIface], .iface⟩ := ⟨by kernel_rfl, by kernel_rfl, by kernel_rfl, rfl, trivial⟩
theorem ti21 : TIok Try.prog 21 ⟨1, false, 4, [.int .i32 0], .int .i32⟩ := ⟨by kernel_rfl, by kernel_rfl, by kernel_rfl, rfl, by show _ = _; kernel_rfl⟩
theorem ti22 : TIok Try.prog 22 ⟨1, false, 24, [.slice none 0 0], .slice 90⟩ := ⟨by kernel_rfl, by kernel_rfl, by kernel_rfl, rfl, by show _ = _; kernel_rfl⟩
theorem ti23 : TIok Try.prog 23 ⟨3, true, 56, [.string ⟨#[]⟩, .string ⟨#[]⟩, .slice none 0 0], .strct [(0, 9), (1, 9), (2, 22)]⟩ := ⟨by kernel_rfl, by kernel_rfl, by kernel_rfl, rfl, ⟨by kernel_rfl, by kernel_rfl⟩⟩
theorem ti24 : TIok Try.prog 24 ⟨3, true, 56, [.string ⟨#[]⟩, .string ⟨#[]⟩, .slice none 0 0], .strct [(0, 9), (1, 9), (2, 22)]⟩ := ⟨by kernel_rfl, by kernel_rfl, by kernel_rfl, rfl, ⟨by kernel_rfl, by kernel_rfl⟩⟩
theorem ti25 : TIok Try.prog 25 ⟨1, false, 8, [.nilFunc], .func⟩ := ⟨by kernel_rfl, by kernel_rfl, by kernel_rfl, rfl, trivial⟩
theorem ti26 : TIok Try.prog 26 ⟨1, false, 8, [.nilFunc], .func⟩ := ⟨by kernel_rfl, by kernel_rfl, by kernel_rfl, rfl, trivial⟩
theorem ti27 : TIok Try.prog 27 ⟨1, false, 24, [.slice none 0 0], .slice 66⟩ := ⟨by kernel_rfl, by kernel_rfl, by kernel_rfl, rfl, by show _ = _; kernel_rfl⟩
theorem ti28 : TIok Try.prog 28 ⟨3, true, 56, [.string ⟨#[]⟩, .string ⟨#[]⟩, .slice none 0 0], .strct [(0, 9), (1, 9), (2, 27)]⟩ := ⟨by kernel_rfl, by kernel_rfl, by kernel_rfl, rfl, ⟨by kernel_rfl, by kernel_rfl⟩⟩
theorem ti29 : TIok Try.prog 29 ⟨3, true, 56, [.string ⟨#[]⟩, .string ⟨#[]⟩, .slice none 0 0], .strct [(0, 9), (1, 9), (2, 27)]⟩ := ⟨by kernel_rfl, by kernel_rfl, by kernel_rfl, rfl, ⟨by kernel_rfl, by kernel_rfl⟩⟩
theorem ti30 : TIok Try.prog 30 ⟨1, false, 8, [.nilFunc], .func⟩ := ⟨by kernel_rfl, by kernel_rfl, by kernel_rfl, rfl, trivial⟩
theorem ti31 : TIok Try.prog 31 ⟨1, false, 8, [.nilFunc], .func⟩ := ⟨by kernel_rfl, by kernel_rfl, by kernel_rfl, rfl, trivial⟩
theorem ti32 : TIok Try.prog 32 ⟨1, false, 8, [.nilFunc], .func⟩ := ⟨by kernel_rfl, by kernel_rfl, by kernel_rfl, rfl, trivial⟩
theorem ti34 : TIok Try.prog 34 ⟨1, false, 8, [.nilFunc], .func⟩ := ⟨by kernel_rfl, by kernel_rfl, by kernel_rfl, rfl, trivial⟩
theorem ti35 : TIok Try.prog 35 ⟨1, false, 8, [.nilFunc], .func⟩ := ⟨by kernel_rfl, by kernel_rfl, by kernel_rfl, rfl, trivial⟩
theorem ti36 : TIok Try.prog 36 ⟨1, false, 8, [.nilFunc], .func⟩ := ⟨by kernel_rfl, by kernel_rfl, by kernel_rfl, rfl, trivial⟩
theorem ti37 : TIok Try.prog 37 ⟨1, false, 24, [.slice none 0 0], .slice 45⟩ := ⟨by kernel_rfl, by kernel_rfl, by kernel_rfl, rfl, by show _ = _; kernel_rfl⟩
theorem ti38 : TIok Try.prog 38 ⟨1, false, 8, [.nilFunc], .func⟩ := ⟨by kernel_rfl, by kernel_rfl, by kernel_rfl, rfl, trivial⟩
theorem ti39 : TIok Try.prog 39 ⟨1, false, 8, [.nilFunc], .func⟩ := ⟨by kernel_rfl, by kernel_rfl, by kernel_rfl, rfl, trivial⟩
theorem ti40 : TIok Try.prog 40 ⟨1, false, 24, [.slice none 0 0], .slice 50⟩ := ⟨by kernel_rfl, by kernel_rfl, by kernel_rfl, rfl, by show _ = _; kernel_rfl⟩
theorem ti41 : TIok Try.prog 41 ⟨1, false, 8, [.nilFunc], .func⟩ := ⟨by kernel_rfl, by kernel_rfl, by kernel_rfl, rfl, trivial⟩
theorem ti42 : TIok Try.prog 42 ⟨1, false, 8, [.nilFunc], .func⟩ := ⟨by kernel_rfl, by kernel_rfl, by kernel_rfl, rfl, trivial⟩
theorem ti43 : TIok Try.prog 43 ⟨1, false, 8, [.nilFunc], .func⟩ := ⟨by kernel_rfl, by kernel_rfl, by kernel_rfl, rfl, trivial⟩
theorem ti44 : TIok Try.prog 44 ⟨4, true, 56, [.int .i64 0, .int .i64 0, .string ⟨#[]⟩, .slice none 0 0], .strct [(0, 3), (1, 3), (2, 9), (3, 37)]⟩ := ⟨by kernel_rfl, by kernel_rfl, by kernel_rfl, rfl, ⟨by kernel_rfl, by kernel_rfl⟩⟩
theorem ti45 : TIok Try.prog 45 ⟨4, true, 56, [.int .i64 0, .int .i64 0, .string ⟨#[]⟩, .slice none 0 0], .strct [(0, 3), (1, 3), (2, 9), (3, 37)]⟩ := ⟨by kernel_rfl, by kernel_rfl, by kernel_rfl, rfl, ⟨by kernel_rfl, by kernel_rfl⟩⟩
theorem ti46 : TIok Try.prog 46 ⟨1, false, 24, [.slice none 0 0], .slice 77⟩ := ⟨by kernel_rfl, by kernel_rfl, by kernel_rfl, rfl, by show _ = _; kernel_rfl⟩
theorem ti47 : TIok Try.prog 47 ⟨1, false, 8, [.nilFunc], .func⟩ := ⟨by kernel_rfl, by kernel_rfl, by kernel_rfl, rfl, trivial⟩
theorem ti48 : TIok Try.prog 48 ⟨1, false, 8, [.nilFunc], .func⟩ := ⟨by kernel_rfl, by kernel_rfl, by kernel_rfl, rfl, trivial⟩
theorem ti49 : TIok Try.prog 49 ⟨4, true, 56, [.int .i64 0, .int .i64 0, .string ⟨#[]⟩, .slice none 0 0], .strct [(0, 3), (1, 3), (2, 9), (3, 40)]⟩ := ⟨by kernel_rfl, by kernel_rfl, by kernel_rfl, rfl, ⟨by kernel_rfl, by kernel_rfl⟩⟩
theorem ti50 : TIok Try.prog 50 ⟨4, true, 56, [.int .i64 0, .int .i64 0, .string ⟨#[]⟩, .slice none 0 0], .strct [(0, 3), (1, 3), (2, 9), (3, 40)]⟩ := ⟨by kernel_rfl, by kernel_rfl, by kernel_rfl, rfl, ⟨by kernel_rfl, by kernel_rfl⟩⟩
theorem ti52 : TIok Try.prog 52 ⟨1, false, 8, [.nilFunc], .func⟩ := ⟨by kernel_rfl, by kernel_rfl, by kernel_rfl, rfl, trivial⟩
theorem ti53 : TIok Try.prog 53 ⟨1, false, 8, [.nilFunc], .func⟩ := ⟨by kernel_rfl, by kernel_rfl, by kernel_rfl, rfl, trivial⟩
theorem ti54 : TIok Try.prog 54 ⟨1, false, 24, [.slice none 0 0], .slice 82⟩ := ⟨by kernel_rfl, by kernel_rfl, by kernel_rfl, rfl, by show _ = _; kernel_rfl⟩
theorem ti55 : TIok Try.prog 55 ⟨1, false, 8, [.nilFunc], .func⟩ := ⟨by kernel_rfl, by kernel_rfl, by kernel_rfl, rfl, trivial⟩
theorem ti56 : TIok Try.prog 56 ⟨1, false, 8, [.nilFunc], .func⟩ := ⟨by kernel_rfl, by kernel_rfl, by kernel_rfl, rfl, trivial⟩
theorem ti57 : TIok Try.prog 57 ⟨1, false, 8, [.nilFunc], .func⟩ := ⟨by kernel_rfl, by kernel_rfl, by kernel_rfl, rfl, trivial⟩
theorem ti58 : TIok Try.prog 58 ⟨1, false, 8, [.nilFunc], .func⟩ := ⟨by kernel_rfl, by kernel_rfl, by kernel_rfl, rfl, trivial⟩
theorem ti59 : TIok Try.prog 59 ⟨1, false, 8, [.nilFunc], .func⟩ := ⟨by kernel_rfl, by kernel_rfl, by kernel_rfl, rfl, trivial⟩
theorem ti60 : TIok Try.prog 60 ⟨1, false, 8, [.nilFunc], .func⟩ := ⟨by kernel_rfl, by kernel_rfl, by kernel_rfl, rfl, trivial⟩
theorem ti61 : TIok Try.prog 61 ⟨1, false, 8, [.nilFunc], .func⟩ := ⟨by kernel_rfl, by kernel_rfl, by kernel_rfl, rfl, trivial⟩
theorem ti62 : TIok Try.prog 62 ⟨1, false, 8, [.nilFunc], .func⟩ := ⟨by kernel_rfl, by kernel_rfl, by kernel_rfl, rfl, trivial⟩
theorem ti63 : TIok Try.prog 63 ⟨1, false, 8, [.nilFunc], .func⟩ := ⟨by kernel_rfl, by kernel_rfl, by kernel_rfl, rfl, trivial⟩
theorem ti64 : TIok Try.prog 64 ⟨1, false, 8, [.nilFunc], .func⟩ := ⟨by kernel_rfl, by kernel_rfl, by kernel_rfl, rfl, trivial⟩
theorem ti65 : TIok Try.prog 65 ⟨3, true, 24, [.int .i64 0, .int .i64 0, .bool false], .strct [(0, 3), (1, 3), (2, 4)]⟩ := ⟨by kernel_rfl, by kernel_rfl, by kernel_rfl, rfl, ⟨by kernel_rfl, by kernel_rfl⟩⟩
theorem ti66 : TIok Try.prog 66 ⟨3, true, 24, [.int .i64 0, .int .i64 0, .bool false], .strct [(0, 3), (1, 3), (2, 4)]⟩ := ⟨by kernel_rfl, by kernel_rfl, by kernel_rfl, rfl, ⟨by kernel_rfl, by kernel_rfl⟩⟩
theorem ti67 : TIok Try.prog 67 ⟨1, false, 8, [.nilFunc], .func⟩ := ⟨by kernel_rfl, by kernel_rfl, by kernel_rfl, rfl, trivial⟩
theorem ti68 : TIok Try.prog 68 ⟨1, false, 8, [.nilFunc], .func⟩ := ⟨by kernel_rfl, by kernel_rfl, by kernel_rfl, rfl, trivial⟩
theorem ti69 : TIok Try.prog 69 ⟨1, false, 8, [.nilFunc], .func⟩ := ⟨by kernel_rfl, by kernel_rfl, by kernel_rfl, rfl, trivial⟩
theorem ti70 : TIok Try.prog 70 ⟨1, false, 8, [.nilFunc], .func⟩ := ⟨by kernel_rfl, by kernel_rfl, by kernel_rfl, rfl, trivial⟩
theorem ti71 : TIok Try.prog 71 ⟨1, false, 8, [.nilFunc], .func⟩ := ⟨by kernel_rfl, by kernel_rfl, by kernel_rfl, rfl, trivial⟩
theorem ti72 : TIok Try.prog 72 ⟨1, false, 8, [.nilFunc], .func⟩ := ⟨by kernel_rfl, by kernel_rfl, by kernel_rfl, rfl, trivial⟩
theorem ti73 : TIok Try.prog 73 ⟨1, false, 8, [.nilFunc], .func⟩ := ⟨by kernel_rfl, by kernel_rfl, by kernel_rfl, rfl, trivial⟩
theorem ti74 : TIok Try.prog 74 ⟨1, false, 8, [.nilFunc], .func⟩ := ⟨by kernel_rfl, by kernel_rfl, by kernel_rfl, rfl, trivial⟩
theorem ti75 : TIok Try.prog 75 ⟨1, false, 8, [.nilFunc], .func⟩ := ⟨by kernel_rfl, by kernel_rfl, by kernel_rfl, rfl, trivial⟩
theorem ti76 : TIok Try.prog 76 ⟨5, true, 64, [.int .i64 0, .int .i64 0, .int .i64 0, .string ⟨#[]⟩, .slice none 0 0], .strct [(0, 3), (1, 45)]⟩ := ⟨by kernel_rfl, by kernel_rfl, by kernel_rfl, rfl, ⟨by kernel_rfl, by kernel_rfl⟩⟩
theorem ti77 : TIok Try.prog 77 ⟨5, true, 64, [.int .i64 0, .int .i64 0, .int .i64 0, .string ⟨#[]⟩, .slice none 0 0], .strct [(0, 3), (1, 45)]⟩ := ⟨by kernel_rfl, by kernel_rfl, by kernel_rfl, rfl, ⟨by kernel_rfl, by kernel_rfl⟩⟩
theorem ti78 : TIok Try.prog 78 ⟨1, false, 8, [.nilFunc], .func⟩ := ⟨by kernel_rfl, by kernel_rfl, by kernel_rfl, rfl, trivial⟩
theorem ti79 : TIok Try.prog 79 ⟨1, false, 8, [.nilFunc], .func⟩ := ⟨by kernel_rfl, by kernel_rfl, by kernel_rfl, rfl, trivial⟩
theorem ti80 : TIok Try.prog 80 ⟨1, false, 8, [.nilFunc], .func⟩ := ⟨by kernel_rfl, by kernel_rfl, by kernel_rfl, rfl, trivial⟩
theorem ti81 : TIok Try.prog 81 ⟨5, true, 64, [.int .i64 0, .int .i64 0, .int .i64 0, .string ⟨#[]⟩, .slice none 0 0], .strct [(0, 3), (1, 50)]⟩ := ⟨by kernel_rfl, by kernel_rfl, by kernel_rfl, rfl, ⟨by kernel_rfl, by kernel_rfl⟩⟩
theorem ti82 : TIok Try.prog 82 ⟨5, true, 64, [.int .i64 0, .int .i64 0, .int .i64 0, .string ⟨#[]⟩, .slice none 0 0], .strct [(0, 3), (1, 50)]⟩ := ⟨by kernel_rfl, by kernel_rfl, by kernel_rfl, rfl, ⟨by kernel_rfl, by kernel_rfl⟩⟩
theorem ti83 : TIok Try.prog 83 ⟨1, false, 8, [.nilFunc], .func⟩ := ⟨by kernel_rfl, by kernel_rfl, by kernel_rfl, rfl, trivial⟩
theorem ti84 : TIok Try.prog 84 ⟨1, false, 8, [.nilFunc], .func⟩ := ⟨by kernel_rfl, by kernel_rfl, by kernel_rfl, rfl, trivial⟩
theorem ti85 : TIok Try.prog 85 ⟨1, false, 8, [.nilFunc], .func⟩ := ⟨by kernel_rfl, by kernel_rfl, by kernel_rfl, rfl, trivial⟩
theorem ti86 : TIok Try.prog 86 ⟨1, false, 8, [.nilFunc], .func⟩ := ⟨by kernel_rfl, by kernel_rfl, by kernel_rfl, rfl, trivial⟩
theorem ti87 : TIok Try.prog 87 ⟨1, false, 8, [.nilFunc], .func⟩ := ⟨by kernel_rfl, by kernel_rfl, by kernel_rfl, rfl, trivial⟩
theorem ti88 : TIok Try.prog 88 ⟨1, false, 24, [.slice none 0 0], .slice 9⟩ := ⟨by kernel_rfl, by kernel_rfl, by kernel_rfl, rfl, by show _ = _; kernel_rfl⟩
theorem ti89 : TIok Try.prog 89 ⟨1, false, 8, [.nilFunc], .func⟩ := ⟨by kernel_rfl, by kernel_rfl, by kernel_rfl, rfl, trivial⟩
theorem ti90 : TIok Try.prog 90 ⟨3, true, 24, [.int .i64 0, .int .i64 0, .bool false], .strct [(0, 3), (1, 3), (2, 4)]⟩ := ⟨by kernel_rfl, by kernel_rfl, by kernel_rfl, rfl, ⟨by kernel_rfl, by kernel_rfl⟩⟩
theorem ti91 : TIok Try.prog 91 ⟨1, false, 8, [.nilFunc], .func⟩ := ⟨by kernel_rfl, by kernel_rfl, by kernel_rfl, rfl, trivial⟩
theorem ti92 : TIok Try.prog 92 ⟨1, false, 24, [.slice none 0 0], .slice 3⟩ := ⟨by kernel_rfl, by kernel_rfl, by kernel_rfl, rfl, by show _ = _; kernel_rfl⟩
theorem ti93 : TIok Try.prog 93 ⟨1, false, 8, [.nilFunc], .func⟩ := ⟨by kernel_rfl, by kernel_rfl, by kernel_rfl, rfl, trivial⟩
theorem ti94 : TIok Try.prog 94 ⟨1, false, 8, [.nilFunc], .func⟩ := ⟨by kernel_rfl, by kernel_rfl, by kernel_rfl, rfl, trivial⟩
theorem ti95 : TIok Try.prog 95 ⟨1, false, 8, [.nilFunc], .func⟩ := ⟨by kernel_rfl, by kernel_rfl, by kernel_rfl, rfl, trivial⟩
theorem ti96 : TIok Try.prog 96 ⟨1, false, 8, [.nilFunc], .func⟩ := ⟨by kernel_rfl, by kernel_rfl, by kernel_rfl, rfl, trivial⟩
theorem ti97 : TIok Try.prog 97 ⟨1, false, 8, [.nilFunc], .func⟩ := ⟨by kernel_rfl, by kernel_rfl, by kernel_rfl, rfl, trivial⟩
theorem ti98 : TIok Try.prog 98 ⟨1, false, 8, [.nilFunc], .func⟩ := ⟨by kernel_rfl, by kernel_rfl, by kernel_rfl, rfl, trivial⟩
theorem ti99 : TIok Try.prog 99 ⟨1, false, 24, [.slice none 0 0], .slice 5⟩ := ⟨by kernel_rfl, by kernel_rfl, by kernel_rfl, rfl, by show _ = _; kernel_rfl⟩
theorem ti100 : TIok Try.prog 100 ⟨1, false, 8, [.nilFunc], .func⟩ := ⟨by kernel_rfl, by kernel_rfl, by kernel_rfl, rfl, trivial⟩
theorem ti101 : TIok Try.prog 101 ⟨1, false, 8, [.nilFunc], .func⟩ := ⟨by kernel_rfl, by kernel_rfl, by kernel_rfl, rfl, trivial⟩
theorem ti102 : TIok Try.prog 102 ⟨1, false, 8, [.nilFunc], .func⟩ := ⟨by kernel_rfl, by kernel_rfl, by kernel_rfl, rfl, trivial⟩
theorem ti103 : TIok Try.prog 103 ⟨1, false, 8, [.nilFunc], .func⟩ := ⟨by kernel_rfl, by kernel_rfl, by kernel_rfl, rfl, trivial⟩
theorem ti104 : TIok Try.prog 104 ⟨1, false, 8, [.nilFunc], .func⟩ := ⟨by kernel_rfl, by kernel_rfl, by kernel_rfl, rfl, trivial⟩
theorem ti105 : TIok Try.prog 105 ⟨1, false, 8, [.nilFunc], .func⟩ := ⟨by kernel_rfl, by kernel_rfl, by kernel_rfl, rfl, trivial⟩
theorem ti106 : TIok Try.prog 106 ⟨1, false, 8, [.nilFunc], .func⟩ := ⟨by kernel_rfl, by kernel_rfl, by kernel_rfl, rfl, trivial⟩
theorem ti107 : TIok Try.prog 107 ⟨1, false, 8, [.nilFunc], .func⟩ := ⟨by kernel_rfl, by kernel_rfl, by kernel_rfl, rfl, trivial⟩
theorem ti108 : TIok Try.prog 108 ⟨1, false, 8, [.nilFunc], .func⟩ := ⟨by kernel_rfl, by kernel_rfl, by kernel_rfl, rfl, trivial⟩
theorem ti109 : TIok Try.prog 109 ⟨1, false, 8, [.nilFunc], .func⟩ := ⟨by kernel_rfl, by kernel_rfl, by kernel_rfl, rfl, trivial⟩
theorem ti110 : TIok Try.prog 110 ⟨1, false, 8, [.nilFunc], .func⟩ := ⟨by kernel_rfl, by kernel_rfl, by kernel_rfl, rfl, trivial⟩
theorem ti111 : TIok Try.prog 111 ⟨1, false, 8, [.int .u64 0], .int .u64⟩ := ⟨by kernel_rfl, by kernel_rfl, by kernel_rfl, rfl, by show _ = _; kernel_rfl⟩
theorem ti112 : TIok Try.prog 112 ⟨1, false, 8, [.nilFunc], .func⟩ := ⟨by kernel_rfl, by kernel_rfl, by kernel_rfl, rfl, trivial⟩
theorem ti113 : TIok Try.prog 113 ⟨4, true, 40, [.pointer none, .pointer none, .pointer none, .string ⟨#[]⟩], .strct [(0, 17), (1, 17), (2, 17), (3, 9)]⟩ := ⟨by kernel_rfl, by kernel_rfl, by kernel_rfl, rfl, ⟨by kernel_rfl, by kernel_rfl⟩⟩
theorem ti114 : TIok Try.prog 114 ⟨4, true, 40, [.pointer none, .pointer none, .pointer none, .string ⟨#[]⟩], .strct [(0, 17), (1, 17), (2, 17), (3, 9)]⟩ := ⟨by kernel_rfl, by kernel_rfl, by kernel_rfl, rfl, ⟨by kernel_rfl, by kernel_rfl⟩⟩
theorem ti116 : TIok Try.prog 116 ⟨0, true, 0, [], .strct [(0, 115)]⟩ := ⟨by kernel_rfl, by kernel_rfl, by kernel_rfl, rfl, ⟨by kernel_rfl, by kernel_rfl⟩⟩
theorem ti117 : TIok Try.prog 117 ⟨0, true, 0, [], .strct [(0, 115)]⟩ := ⟨by kernel_rfl, by kernel_rfl, by kernel_rfl, rfl, ⟨by kernel_rfl, by kernel_rfl⟩⟩
theorem ti118 : TIok Try.prog 118 ⟨1, false, 8, [.nilFunc], .func⟩ := ⟨by kernel_rfl, by kernel_rfl, by kernel_rfl, rfl, trivial⟩
theorem ti119 : TIok Try.prog 119 ⟨1, false, 4, [.int .u32 0], .int .u32⟩ := ⟨by kernel_rfl, by kernel_rfl, by kernel_rfl, rfl, by show _ = _; kernel_rfl⟩
theorem ti120 : TIok Try.prog 120 ⟨1, false, 1, [.int .u8 0], .int .u8⟩ := ⟨by kernel_rfl, by kernel_rfl, by kernel_rfl, rfl, by show _ = _; kernel_rfl⟩
theorem ti121 : TIok Try.prog 121 ⟨1, false, 1, [.int .u8 0], .int .u8⟩ := ⟨by kernel_rfl, by kernel_rfl, by kernel_rfl, rfl, by show _ = _; kernel_rfl⟩
theorem ti122 : TIok Try.prog 122 ⟨1, false, 8, [.nilFunc], .func⟩ := ⟨by kernel_rfl, by kernel_rfl, by kernel_rfl, rfl, trivial⟩
theorem ti123 : TIok Try.prog 123 ⟨1, false, 8, [.pointer none], .ptr 5⟩ := ⟨by kernel_rfl, by kernel_rfl, by kernel_rfl, rfl, by show _ = _; kernel_rfl⟩
theorem ti124 : TIok Try.prog 124 ⟨1, false, 4, [.int .i32 0], .int .i32⟩ := ⟨by kernel_rfl, by kernel_rfl, by kernel_rfl, rfl, by show _ = _; kernel_rfl⟩
theorem ti125 : TIok Try.prog 125 ⟨1, false, 4, [.int .i32 0], .int .i32⟩ := ⟨by kernel_rfl, by kernel_rfl, by kernel_rfl, rfl, by show _ = _; kernel_rfl⟩
theorem ti126 : TIok Try.prog 126 ⟨11, true, 48, [.int .u64 0, .int .u64 0, .int .u32 0, .int .u8 0, .int .u8 0, .int .u8 0, .int .u8 0, .nilFunc, .pointer none, .int .i32 0, .int .i32 0], .strct [(0, 12), (1, 12), (2, 119), (3, 120), (4, 5), (5, 5), (6, 121), (7, 122), (8, 123), (9, 124), (10, 125)]⟩ := ⟨by kernel_rfl, by kernel_rfl, by kernel_rfl, rfl, ⟨by kernel_rfl, by kernel_rfl⟩⟩
theorem ti127 : TIok Try.prog 127 ⟨11, true, 48, [.int .u64 0, .int .u64 0, .int .u32 0, .int .u8 0, .int .u8 0, .int .u8 0, .int .u8 0, .nilFunc, .pointer none, .int .i32 0, .int .i32 0], .strct [(0, 12), (1, 12), (2, 119), (3, 120), (4, 5), (5, 5), (6, 121), (7, 122), (8, 123), (9, 124), (10, 125)]⟩ := ⟨by kernel_rfl, by kernel_rfl, by kernel_rfl, rfl, ⟨by kernel_rfl, by kernel_rfl⟩⟩
theorem ttok : TTok Try.prog tt := ⟨ti1, ti2, ti3, ti4, ti5, ti6, ti7, ti8, ti9, ti10, ti11, ti12, ti13, ti14, ti15, ti16, ti17, ti18, ti19, ti20, ti21, ti22, ti23, ti24, ti25, ti26, ti27, ti28, ti29, ti30, ti31, ti32, ti34, ti35, ti36, ti37, ti38, ti39, ti40, ti41, ti42, ti43, ti44, ti45, ti46, ti47, ti48, ti49, ti50, ti52, ti53, ti54, ti55, ti56, ti57, ti58, ti59, ti60, ti61, ti62, ti63, ti64, ti65, ti66, ti67, ti68, ti69, ti70, ti71, ti72, ti73, ti74, ti75, ti76, ti77, ti78, ti79, ti80, ti81, ti82, ti83, ti84, ti85, ti86, ti87, ti88, ti89, ti90, ti91, ti92, ti93, ti94, ti95, ti96, ti97, ti98, ti99, ti100, ti101, ti102, ti103, ti104, ti105, ti106, ti107, ti108, ti109, ti110, ti111, ti112, ti113, ti114, ti116, ti117, ti118, ti119, ti120, ti121, ti122, ti123, ti124, ti125, ti126, ti127, trivial⟩
end Go.Vx
