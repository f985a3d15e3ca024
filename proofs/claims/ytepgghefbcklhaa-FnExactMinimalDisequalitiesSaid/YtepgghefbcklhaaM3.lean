/- Texts of the proof, part 3: TT Va VxX VxY VxZ Vh Vi Vd Vk Vl Vm Vn Vo Vp Vr Vs Ve Vj Vt Vu Vv Vw. -/
import Derived.Test.YtepgghefbcklhaaM1
import Derived.Test.YtepgghefbcklhaaChecked
import Derived.KernelRfl
import Derived.Test.YtepgghefbcklhaaM2
import Derived.WalkKit
import Derived.ProofKit
import Derived.OpenShut
import Derived.Carry
import Derived.ChangeOld
import Derived.Handed
import Derived.JoinedOf
/- The type table of this seat, by gen_tt.py. -/
namespace Go.Vx
open Go.Proofs
def tt : List (Nat × TI) := [
  (1, ⟨1, false, 8, [.nilFunc], .func⟩),
  (2, ⟨1, false, 8, [.int .i64 0], .int .i64⟩),
  (3, ⟨1, false, 8, [.int .i64 0], .int .i64⟩),
  (4, ⟨1, false, 1, [.bool false], .bool⟩),
  (5, ⟨1, false, 1, [.int .u8 0], .int .u8⟩),
  (6, ⟨1, false, 1, [.int .u8 0], .int .u8⟩),
  (7, ⟨4, true, 24, [.int .i64 0, .int .i64 0, .bool false, .int .u8 0], .strct [(0, 2), (1, 3), (2, 4), (3, 6)]⟩),
  (8, ⟨4, true, 24, [.int .i64 0, .int .i64 0, .bool false, .int .u8 0], .strct [(0, 2), (1, 3), (2, 4), (3, 6)]⟩),
  (9, ⟨1, false, 16, [.string ⟨#[]⟩], .str⟩),
  (10, ⟨1, false, 16, [.string ⟨#[]⟩], .str⟩),
  (11, ⟨1, false, 16, [.string ⟨#[]⟩], .str⟩),
  (12, ⟨1, false, 8, [.int .u64 0], .int .u64⟩),
  (13, ⟨2, true, 24, [.string ⟨#[]⟩, .int .u64 0], .strct [(0, 9), (1, 12)]⟩),
  (14, ⟨2, true, 24, [.string ⟨#[]⟩, .int .u64 0], .strct [(0, 9), (1, 12)]⟩),
  (15, ⟨1, false, 8, [.pointer none], .ptr 268⟩),
  (16, ⟨1, false, 8, [.pointer none], .ptr 271⟩),
  (17, ⟨1, false, 8, [.pointer none], .ptr 279⟩),
  (18, ⟨1, true, 8, [.pointer none], .strct [(0, 17)]⟩),
  (19, ⟨1, true, 8, [.pointer none], .strct [(0, 17)]⟩),
  (20, ⟨1, false, 16, [.nilIface], .iface⟩),
  (21, ⟨1, false, 4, [.int .i32 0], .int .i32⟩),
  (22, ⟨1, false, 24, [.slice none 0 0], .slice 157⟩),
  (23, ⟨1, true, 24, [.slice none 0 0], .strct [(0, 22)]⟩),
  (24, ⟨1, true, 24, [.slice none 0 0], .strct [(0, 22)]⟩),
  (25, ⟨1, false, 8, [.nilFunc], .func⟩),
  (26, ⟨1, false, 8, [.nilFunc], .func⟩),
  (27, ⟨1, false, 24, [.slice none 0 0], .slice 95⟩),
  (28, ⟨1, true, 24, [.slice none 0 0], .strct [(0, 27)]⟩),
  (29, ⟨1, true, 24, [.slice none 0 0], .strct [(0, 27)]⟩),
  (30, ⟨1, false, 8, [.nilFunc], .func⟩),
  (31, ⟨1, false, 8, [.nilFunc], .func⟩),
  (32, ⟨1, false, 8, [.nilFunc], .func⟩),
  (33, ⟨1, false, 24, [.slice none 0 0], .slice 41⟩),
  (34, ⟨1, false, 8, [.nilFunc], .func⟩),
  (35, ⟨1, false, 24, [.slice none 0 0], .slice 43⟩),
  (36, ⟨1, false, 8, [.nilFunc], .func⟩),
  (37, ⟨1, false, 8, [.nilFunc], .func⟩),
  (38, ⟨1, false, 8, [.nilFunc], .func⟩),
  (39, ⟨1, false, 8, [.nilFunc], .func⟩),
  (40, ⟨1, false, 8, [.nilFunc], .func⟩),
  (41, ⟨1, false, 24, [.slice none 0 0], .slice 107⟩),
  (42, ⟨1, false, 8, [.nilFunc], .func⟩),
  (43, ⟨1, false, 24, [.slice none 0 0], .slice 109⟩),
  (45, ⟨1, false, 8, [.nilFunc], .func⟩),
  (46, ⟨1, false, 8, [.nilFunc], .func⟩),
  (47, ⟨1, false, 8, [.nilFunc], .func⟩),
  (48, ⟨1, false, 8, [.nilFunc], .func⟩),
  (49, ⟨1, false, 8, [.nilFunc], .func⟩),
  (50, ⟨1, false, 24, [.slice none 0 0], .slice 124⟩),
  (51, ⟨1, false, 8, [.nilFunc], .func⟩),
  (52, ⟨1, false, 24, [.slice none 0 0], .slice 122⟩),
  (54, ⟨1, false, 8, [.nilFunc], .func⟩),
  (55, ⟨1, false, 8, [.nilFunc], .func⟩),
  (56, ⟨1, false, 8, [.nilFunc], .func⟩),
  (57, ⟨1, false, 8, [.nilFunc], .func⟩),
  (58, ⟨1, false, 8, [.nilFunc], .func⟩),
  (59, ⟨1, false, 24, [.slice none 0 0], .slice 61⟩),
  (60, ⟨4, true, 56, [.int .i64 0, .int .i64 0, .string ⟨#[]⟩, .slice none 0 0], .strct [(0, 3), (1, 3), (2, 9), (3, 59)]⟩),
  (61, ⟨4, true, 56, [.int .i64 0, .int .i64 0, .string ⟨#[]⟩, .slice none 0 0], .strct [(0, 3), (1, 3), (2, 9), (3, 59)]⟩),
  (62, ⟨1, false, 8, [.nilFunc], .func⟩),
  (63, ⟨1, false, 8, [.nilFunc], .func⟩),
  (64, ⟨1, false, 24, [.slice none 0 0], .slice 66⟩),
  (65, ⟨4, true, 56, [.int .i64 0, .int .i64 0, .string ⟨#[]⟩, .slice none 0 0], .strct [(0, 3), (1, 3), (2, 9), (3, 64)]⟩),
  (66, ⟨4, true, 56, [.int .i64 0, .int .i64 0, .string ⟨#[]⟩, .slice none 0 0], .strct [(0, 3), (1, 3), (2, 9), (3, 64)]⟩),
  (67, ⟨1, false, 8, [.nilFunc], .func⟩),
  (68, ⟨1, false, 8, [.nilFunc], .func⟩),
  (69, ⟨1, false, 8, [.nilFunc], .func⟩),
  (70, ⟨1, false, 8, [.nilFunc], .func⟩),
  (71, ⟨1, false, 24, [.slice none 0 0], .slice 192⟩),
  (72, ⟨1, false, 24, [.slice none 0 0], .slice 194⟩),
  (73, ⟨2, true, 48, [.slice none 0 0, .slice none 0 0], .strct [(0, 71), (1, 72)]⟩),
  (74, ⟨2, true, 48, [.slice none 0 0, .slice none 0 0], .strct [(0, 71), (1, 72)]⟩),
  (75, ⟨1, false, 8, [.nilFunc], .func⟩),
  (76, ⟨1, false, 8, [.nilFunc], .func⟩),
  (77, ⟨1, false, 24, [.slice none 0 0], .slice 144⟩),
  (78, ⟨1, false, 24, [.slice none 0 0], .slice 135⟩),
  (79, ⟨2, true, 48, [.slice none 0 0, .slice none 0 0], .strct [(0, 77), (1, 78)]⟩),
  (80, ⟨2, true, 48, [.slice none 0 0, .slice none 0 0], .strct [(0, 77), (1, 78)]⟩),
  (81, ⟨1, false, 8, [.nilFunc], .func⟩),
  (82, ⟨1, false, 8, [.nilFunc], .func⟩),
  (83, ⟨1, false, 8, [.nilFunc], .func⟩),
  (84, ⟨1, false, 24, [.slice none 0 0], .slice 3⟩),
  (85, ⟨1, false, 8, [.nilFunc], .func⟩),
  (86, ⟨1, false, 8, [.nilFunc], .func⟩),
  (87, ⟨1, false, 8, [.nilFunc], .func⟩),
  (88, ⟨1, false, 8, [.nilFunc], .func⟩),
  (89, ⟨1, false, 8, [.nilFunc], .func⟩),
  (90, ⟨1, false, 8, [.nilFunc], .func⟩),
  (91, ⟨1, false, 24, [.slice none 0 0], .slice 93⟩),
  (92, ⟨4, true, 72, [.int .i64 0, .string ⟨#[]⟩, .slice none 0 0, .slice none 0 0], .strct [(0, 3), (1, 9), (2, 64), (3, 91)]⟩),
  (93, ⟨4, true, 72, [.int .i64 0, .string ⟨#[]⟩, .slice none 0 0, .slice none 0 0], .strct [(0, 3), (1, 9), (2, 64), (3, 91)]⟩),
  (94, ⟨7, true, 104, [.string ⟨#[]⟩, .int .i64 0, .int .i64 0, .int .i64 0, .string ⟨#[]⟩, .slice none 0 0, .slice none 0 0], .strct [(0, 9), (1, 3), (2, 3), (3, 93)]⟩),
  (95, ⟨7, true, 104, [.string ⟨#[]⟩, .int .i64 0, .int .i64 0, .int .i64 0, .string ⟨#[]⟩, .slice none 0 0, .slice none 0 0], .strct [(0, 9), (1, 3), (2, 3), (3, 93)]⟩),
  (96, ⟨1, false, 8, [.nilFunc], .func⟩),
  (97, ⟨1, false, 8, [.nilFunc], .func⟩),
  (98, ⟨1, false, 8, [.nilFunc], .func⟩),
  (99, ⟨1, false, 8, [.nilFunc], .func⟩),
  (100, ⟨1, false, 8, [.nilFunc], .func⟩),
  (101, ⟨1, false, 8, [.nilFunc], .func⟩),
  (102, ⟨1, false, 8, [.nilFunc], .func⟩),
  (103, ⟨1, false, 8, [.nilFunc], .func⟩),
  (104, ⟨1, false, 8, [.nilFunc], .func⟩),
  (105, ⟨1, false, 8, [.nilFunc], .func⟩),
  (106, ⟨5, true, 64, [.int .i64 0, .int .i64 0, .int .i64 0, .string ⟨#[]⟩, .slice none 0 0], .strct [(0, 3), (1, 61)]⟩),
  (107, ⟨5, true, 64, [.int .i64 0, .int .i64 0, .int .i64 0, .string ⟨#[]⟩, .slice none 0 0], .strct [(0, 3), (1, 61)]⟩),
  (108, ⟨5, true, 64, [.int .i64 0, .int .i64 0, .int .i64 0, .string ⟨#[]⟩, .slice none 0 0], .strct [(0, 3), (1, 66)]⟩),
  (109, ⟨5, true, 64, [.int .i64 0, .int .i64 0, .int .i64 0, .string ⟨#[]⟩, .slice none 0 0], .strct [(0, 3), (1, 66)]⟩),
  (111, ⟨1, false, 8, [.nilFunc], .func⟩),
  (112, ⟨1, false, 8, [.nilFunc], .func⟩),
  (113, ⟨1, false, 8, [.nilFunc], .func⟩),
  (114, ⟨1, false, 8, [.nilFunc], .func⟩),
  (115, ⟨1, false, 8, [.nilFunc], .func⟩),
  (116, ⟨1, false, 8, [.nilFunc], .func⟩),
  (117, ⟨1, false, 8, [.nilFunc], .func⟩),
  (118, ⟨1, false, 8, [.nilFunc], .func⟩),
  (119, ⟨1, false, 8, [.nilFunc], .func⟩),
  (120, ⟨1, false, 8, [.nilFunc], .func⟩),
  (121, ⟨2, true, 16, [.int .i64 0, .int .i64 0], .strct [(0, 3), (1, 3)]⟩),
  (122, ⟨2, true, 16, [.int .i64 0, .int .i64 0], .strct [(0, 3), (1, 3)]⟩),
  (123, ⟨1, false, 8, [.nilFunc], .func⟩),
  (124, ⟨2, true, 16, [.int .i64 0, .int .i64 0], .strct [(0, 3), (1, 3)]⟩),
  (125, ⟨1, false, 8, [.nilFunc], .func⟩),
  (126, ⟨1, false, 8, [.nilFunc], .func⟩),
  (127, ⟨1, false, 8, [.nilFunc], .func⟩),
  (128, ⟨1, false, 8, [.nilFunc], .func⟩),
  (129, ⟨1, false, 8, [.nilFunc], .func⟩),
  (130, ⟨1, false, 8, [.nilFunc], .func⟩),
  (131, ⟨1, false, 8, [.nilFunc], .func⟩),
  (132, ⟨1, false, 8, [.nilFunc], .func⟩),
  (133, ⟨1, false, 8, [.nilFunc], .func⟩),
  (134, ⟨4, true, 40, [.string ⟨#[]⟩, .int .i64 0, .int .i64 0, .int .i64 0], .strct [(0, 9), (1, 3), (2, 3), (3, 3)]⟩),
  (135, ⟨4, true, 40, [.string ⟨#[]⟩, .int .i64 0, .int .i64 0, .int .i64 0], .strct [(0, 9), (1, 3), (2, 3), (3, 3)]⟩),
  (136, ⟨1, false, 8, [.nilFunc], .func⟩),
  (137, ⟨1, false, 8, [.nilFunc], .func⟩),
  (138, ⟨1, false, 8, [.nilFunc], .func⟩),
  (139, ⟨1, false, 8, [.nilFunc], .func⟩),
  (140, ⟨1, false, 8, [.nilFunc], .func⟩),
  (141, ⟨1, false, 8, [.nilFunc], .func⟩),
  (142, ⟨1, false, 8, [.nilFunc], .func⟩),
  (143, ⟨7, true, 96, [.int .i64 0, .int .i64 0, .int .i64 0, .int .i64 0, .string ⟨#[]⟩, .slice none 0 0, .slice none 0 0], .strct [(0, 3), (1, 3), (2, 3), (3, 93)]⟩),
  (144, ⟨7, true, 96, [.int .i64 0, .int .i64 0, .int .i64 0, .int .i64 0, .string ⟨#[]⟩, .slice none 0 0, .slice none 0 0], .strct [(0, 3), (1, 3), (2, 3), (3, 93)]⟩),
  (145, ⟨1, false, 8, [.nilFunc], .func⟩),
  (146, ⟨1, false, 8, [.nilFunc], .func⟩),
  (147, ⟨1, false, 8, [.nilFunc], .func⟩),
  (148, ⟨1, false, 24, [.slice none 0 0], .slice 91⟩),
  (150, ⟨1, false, 8, [.nilFunc], .func⟩),
  (151, ⟨1, false, 8, [.int .u64 0], .int .u64⟩),
  (152, ⟨1, false, 8, [.nilFunc], .func⟩),
  (153, ⟨1, false, 24, [.slice none 0 0], .slice 155⟩),
  (154, ⟨4, true, 72, [.int .i64 0, .string ⟨#[]⟩, .slice none 0 0, .slice none 0 0], .strct [(0, 3), (1, 9), (2, 59), (3, 153)]⟩),
  (155, ⟨4, true, 72, [.int .i64 0, .string ⟨#[]⟩, .slice none 0 0, .slice none 0 0], .strct [(0, 3), (1, 9), (2, 59), (3, 153)]⟩),
  (156, ⟨7, true, 104, [.string ⟨#[]⟩, .int .i64 0, .int .i64 0, .int .i64 0, .string ⟨#[]⟩, .slice none 0 0, .slice none 0 0], .strct [(0, 9), (1, 3), (2, 3), (3, 155)]⟩),
  (157, ⟨7, true, 104, [.string ⟨#[]⟩, .int .i64 0, .int .i64 0, .int .i64 0, .string ⟨#[]⟩, .slice none 0 0, .slice none 0 0], .strct [(0, 9), (1, 3), (2, 3), (3, 155)]⟩),
  (158, ⟨1, false, 8, [.nilFunc], .func⟩),
  (159, ⟨1, false, 8, [.nilFunc], .func⟩),
  (160, ⟨1, false, 8, [.nilFunc], .func⟩),
  (161, ⟨1, false, 8, [.nilFunc], .func⟩),
  (162, ⟨1, false, 8, [.nilFunc], .func⟩),
  (163, ⟨1, false, 8, [.nilFunc], .func⟩),
  (164, ⟨1, false, 8, [.nilFunc], .func⟩),
  (165, ⟨1, false, 8, [.nilFunc], .func⟩),
  (166, ⟨1, false, 8, [.nilFunc], .func⟩),
  (167, ⟨1, false, 8, [.nilFunc], .func⟩),
  (169, ⟨1, false, 8, [.int .u64 0], .int .u64⟩),
  (170, ⟨3, true, 24, [.pointer none, .pointer none, .int .u64 0], .strct [(0, 17), (1, 168), (2, 169)]⟩),
  (171, ⟨3, true, 24, [.pointer none, .pointer none, .int .u64 0], .strct [(0, 17), (1, 168), (2, 169)]⟩),
  (172, ⟨1, false, 8, [.nilFunc], .func⟩),
  (173, ⟨1, false, 8, [.nilFunc], .func⟩),
  (174, ⟨1, false, 8, [.nilFunc], .func⟩),
  (175, ⟨1, false, 8, [.nilFunc], .func⟩),
  (176, ⟨2, true, 16, [.nilFunc, .nilFunc], .strct [(0, 103), (1, 173)]⟩),
  (177, ⟨2, true, 16, [.nilFunc, .nilFunc], .strct [(0, 103), (1, 173)]⟩),
  (178, ⟨1, false, 8, [.nilFunc], .func⟩),
  (179, ⟨1, false, 8, [.nilFunc], .func⟩),
  (180, ⟨1, false, 8, [.nilFunc], .func⟩),
  (181, ⟨1, false, 8, [.nilFunc], .func⟩),
  (182, ⟨1, false, 8, [.nilFunc], .func⟩),
  (183, ⟨1, false, 8, [.nilFunc], .func⟩),
  (184, ⟨1, false, 8, [.nilFunc], .func⟩),
  (185, ⟨1, false, 8, [.nilFunc], .func⟩),
  (186, ⟨1, false, 8, [.nilFunc], .func⟩),
  (187, ⟨1, false, 24, [.slice none 0 0], .slice 5⟩),
  (188, ⟨1, false, 8, [.nilFunc], .func⟩),
  (189, ⟨1, false, 8, [.nilFunc], .func⟩),
  (190, ⟨1, false, 8, [.nilFunc], .func⟩),
  (191, ⟨7, true, 96, [.int .i64 0, .int .i64 0, .int .i64 0, .int .i64 0, .string ⟨#[]⟩, .slice none 0 0, .slice none 0 0], .strct [(0, 3), (1, 3), (2, 3), (3, 155)]⟩),
  (192, ⟨7, true, 96, [.int .i64 0, .int .i64 0, .int .i64 0, .int .i64 0, .string ⟨#[]⟩, .slice none 0 0, .slice none 0 0], .strct [(0, 3), (1, 3), (2, 3), (3, 155)]⟩),
  (193, ⟨1, false, 8, [.nilFunc], .func⟩),
  (194, ⟨4, true, 40, [.string ⟨#[]⟩, .int .i64 0, .int .i64 0, .int .i64 0], .strct [(0, 9), (1, 3), (2, 3), (3, 3)]⟩),
  (195, ⟨1, false, 24, [.slice none 0 0], .slice 9⟩),
  (196, ⟨1, false, 8, [.nilFunc], .func⟩),
  (197, ⟨1, false, 8, [.nilFunc], .func⟩),
  (198, ⟨1, false, 8, [.nilFunc], .func⟩),
  (199, ⟨1, false, 8, [.nilFunc], .func⟩),
  (200, ⟨1, false, 8, [.nilFunc], .func⟩),
  (201, ⟨1, false, 8, [.nilFunc], .func⟩),
  (202, ⟨1, false, 8, [.nilFunc], .func⟩),
  (203, ⟨1, false, 8, [.nilFunc], .func⟩),
  (204, ⟨1, false, 8, [.nilFunc], .func⟩),
  (205, ⟨1, false, 8, [.nilFunc], .func⟩),
  (206, ⟨1, false, 8, [.nilFunc], .func⟩),
  (207, ⟨1, false, 8, [.nilFunc], .func⟩),
  (208, ⟨1, false, 8, [.map none], .map 3 3⟩),
  (209, ⟨1, false, 8, [.nilFunc], .func⟩),
  (210, ⟨1, false, 8, [.nilFunc], .func⟩),
  (211, ⟨1, false, 8, [.nilFunc], .func⟩),
  (212, ⟨1, false, 8, [.nilFunc], .func⟩),
  (213, ⟨1, false, 8, [.nilFunc], .func⟩),
  (214, ⟨1, true, 8, [.pointer none], .strct [(0, 17)]⟩),
  (215, ⟨1, true, 8, [.pointer none], .strct [(0, 17)]⟩),
  (216, ⟨1, false, 8, [.pointer none], .ptr 281⟩),
  (217, ⟨1, false, 8, [.nilFunc], .func⟩),
  (218, ⟨1, false, 8, [.nilFunc], .func⟩),
  (219, ⟨1, false, 8, [.nilFunc], .func⟩),
  (220, ⟨1, false, 8, [.nilFunc], .func⟩),
  (221, ⟨1, false, 8, [.nilFunc], .func⟩),
  (222, ⟨1, false, 8, [.nilFunc], .func⟩),
  (223, ⟨1, false, 8, [.nilFunc], .func⟩),
  (224, ⟨1, false, 4, [.int .u32 0], .int .u32⟩),
  (225, ⟨1, false, 8, [.nilFunc], .func⟩),
  (226, ⟨1, false, 8, [.int .u64 0], .int .u64⟩),
  (227, ⟨1, false, 8, [.int .i64 0], .int .i64⟩),
  (229, ⟨1, false, 8, [.nilFunc], .func⟩),
  (230, ⟨1, false, 8, [.nilFunc], .func⟩),
  (231, ⟨1, false, 8, [.nilFunc], .func⟩),
  (233, ⟨1, false, 8, [.nilFunc], .func⟩),
  (234, ⟨1, false, 8, [.nilFunc], .func⟩),
  (235, ⟨1, false, 8, [.nilFunc], .func⟩),
  (236, ⟨1, false, 8, [.nilFunc], .func⟩),
  (237, ⟨1, false, 8, [.nilFunc], .func⟩),
  (238, ⟨1, false, 8, [.map none], .map 3 4⟩),
  (239, ⟨1, false, 8, [.nilFunc], .func⟩),
  (240, ⟨1, false, 8, [.nilFunc], .func⟩),
  (241, ⟨1, false, 8, [.int .u64 0], .int .u64⟩),
  (242, ⟨1, false, 8, [.nilFunc], .func⟩),
  (243, ⟨1, false, 8, [.nilFunc], .func⟩),
  (244, ⟨1, false, 8, [.nilFunc], .func⟩),
  (245, ⟨1, false, 8, [.pointer none], .ptr 3⟩),
  (246, ⟨1, false, 8, [.nilFunc], .func⟩),
  (247, ⟨1, false, 8, [.nilFunc], .func⟩),
  (248, ⟨1, false, 8, [.nilFunc], .func⟩),
  (249, ⟨1, false, 8, [.nilFunc], .func⟩),
  (250, ⟨1, false, 8, [.pointer none], .ptr 241⟩),
  (252, ⟨1, false, 8, [.nilFunc], .func⟩),
  (253, ⟨1, false, 8, [.nilFunc], .func⟩),
  (254, ⟨1, false, 8, [.nilFunc], .func⟩),
  (255, ⟨1, false, 8, [.int .i64 0], .int .i64⟩),
  (257, ⟨1, false, 8, [.nilFunc], .func⟩),
  (258, ⟨1, false, 8, [.nilFunc], .func⟩),
  (259, ⟨1, false, 8, [.nilFunc], .func⟩),
  (260, ⟨1, false, 8, [.nilFunc], .func⟩),
  (261, ⟨1, false, 8, [.int .u64 0], .int .u64⟩),
  (262, ⟨1, false, 8, [.nilFunc], .func⟩),
  (263, ⟨1, false, 8, [.nilFunc], .func⟩),
  (264, ⟨1, false, 8, [.pointer none], .ptr 261⟩),
  (265, ⟨1, false, 8, [.nilFunc], .func⟩),
  (266, ⟨1, false, 8, [.nilFunc], .func⟩),
  (267, ⟨4, true, 40, [.pointer none, .pointer none, .pointer none, .string ⟨#[]⟩], .strct [(0, 17), (1, 17), (2, 17), (3, 9)]⟩),
  (268, ⟨4, true, 40, [.pointer none, .pointer none, .pointer none, .string ⟨#[]⟩], .strct [(0, 17), (1, 17), (2, 17), (3, 9)]⟩),
  (270, ⟨0, true, 0, [], .strct [(0, 269)]⟩),
  (271, ⟨0, true, 0, [], .strct [(0, 269)]⟩),
  (272, ⟨1, false, 1, [.int .u8 0], .int .u8⟩),
  (273, ⟨1, false, 1, [.int .u8 0], .int .u8⟩),
  (274, ⟨1, false, 8, [.nilFunc], .func⟩),
  (275, ⟨1, false, 8, [.pointer none], .ptr 5⟩),
  (276, ⟨1, false, 4, [.int .i32 0], .int .i32⟩),
  (277, ⟨1, false, 4, [.int .i32 0], .int .i32⟩),
  (278, ⟨11, true, 48, [.int .u64 0, .int .u64 0, .int .u32 0, .int .u8 0, .int .u8 0, .int .u8 0, .int .u8 0, .nilFunc, .pointer none, .int .i32 0, .int .i32 0], .strct [(0, 12), (1, 12), (2, 224), (3, 272), (4, 5), (5, 5), (6, 273), (7, 274), (8, 275), (9, 276), (10, 277)]⟩),
  (279, ⟨11, true, 48, [.int .u64 0, .int .u64 0, .int .u32 0, .int .u8 0, .int .u8 0, .int .u8 0, .int .u8 0, .nilFunc, .pointer none, .int .i32 0, .int .i32 0], .strct [(0, 12), (1, 12), (2, 224), (3, 272), (4, 5), (5, 5), (6, 273), (7, 274), (8, 275), (9, 276), (10, 277)]⟩),
  (280, ⟨2, true, 24, [.string ⟨#[]⟩, .int .u8 0], .strct [(0, 9), (1, 273)]⟩),
  (281, ⟨2, true, 24, [.string ⟨#[]⟩, .int .u8 0], .strct [(0, 9), (1, 273)]⟩)]
theorem ti1 : TIok Try.prog 1 ⟨1, false, 8, [.nilFunc], .func⟩ := ⟨by kernel_rfl, by kernel_rfl, by kernel_rfl, rfl, by kernel_rfl, trivial⟩
theorem ti2 : TIok Try.prog 2 ⟨1, false, 8, [.int .i64 0], .int .i64⟩ := ⟨by kernel_rfl, by kernel_rfl, by kernel_rfl, rfl, by kernel_rfl, by show _ = _; kernel_rfl⟩
theorem ti3 : TIok Try.prog 3 ⟨1, false, 8, [.int .i64 0], .int .i64⟩ := ⟨by kernel_rfl, by kernel_rfl, by kernel_rfl, rfl, by kernel_rfl, by show _ = _; kernel_rfl⟩
theorem ti4 : TIok Try.prog 4 ⟨1, false, 1, [.bool false], .bool⟩ := ⟨by kernel_rfl, by kernel_rfl, by kernel_rfl, rfl, by kernel_rfl, by show _ = _; kernel_rfl⟩
theorem ti5 : TIok Try.prog 5 ⟨1, false, 1, [.int .u8 0], .int .u8⟩ := ⟨by kernel_rfl, by kernel_rfl, by kernel_rfl, rfl, by kernel_rfl, by show _ = _; kernel_rfl⟩
theorem ti6 : TIok Try.prog 6 ⟨1, false, 1, [.int .u8 0], .int .u8⟩ := ⟨by kernel_rfl, by kernel_rfl, by kernel_rfl, rfl, by kernel_rfl, by show _ = _; kernel_rfl⟩
theorem ti7 : TIok Try.prog 7 ⟨4, true, 24, [.int .i64 0, .int .i64 0, .bool false, .int .u8 0], .strct [(0, 2), (1, 3), (2, 4), (3, 6)]⟩ := ⟨by kernel_rfl, by kernel_rfl, by kernel_rfl, rfl, by kernel_rfl, ⟨by kernel_rfl, by kernel_rfl⟩⟩
theorem ti8 : TIok Try.prog 8 ⟨4, true, 24, [.int .i64 0, .int .i64 0, .bool false, .int .u8 0], .strct [(0, 2), (1, 3), (2, 4), (3, 6)]⟩ := ⟨by kernel_rfl, by kernel_rfl, by kernel_rfl, rfl, by kernel_rfl, ⟨by kernel_rfl, by kernel_rfl⟩⟩
theorem ti9 : TIok Try.prog 9 ⟨1, false, 16, [.string ⟨#[]⟩], .str⟩ := ⟨by kernel_rfl, by kernel_rfl, by kernel_rfl, rfl, by kernel_rfl, by show _ = _; kernel_rfl⟩
theorem ti10 : TIok Try.prog 10 ⟨1, false, 16, [.string ⟨#[]⟩], .str⟩ := ⟨by kernel_rfl, by kernel_rfl, by kernel_rfl, rfl, by kernel_rfl, by show _ = _; kernel_rfl⟩
theorem ti11 : TIok Try.prog 11 ⟨1, false, 16, [.string ⟨#[]⟩], .str⟩ := ⟨by kernel_rfl, by kernel_rfl, by kernel_rfl, rfl, by kernel_rfl, by show _ = _; kernel_rfl⟩
theorem ti12 : TIok Try.prog 12 ⟨1, false, 8, [.int .u64 0], .int .u64⟩ := ⟨by kernel_rfl, by kernel_rfl, by kernel_rfl, rfl, by kernel_rfl, by show _ = _; kernel_rfl⟩
theorem ti13 : TIok Try.prog 13 ⟨2, true, 24, [.string ⟨#[]⟩, .int .u64 0], .strct [(0, 9), (1, 12)]⟩ := ⟨by kernel_rfl, by kernel_rfl, by kernel_rfl, rfl, by kernel_rfl, ⟨by kernel_rfl, by kernel_rfl⟩⟩
theorem ti14 : TIok Try.prog 14 ⟨2, true, 24, [.string ⟨#[]⟩, .int .u64 0], .strct [(0, 9), (1, 12)]⟩ := ⟨by kernel_rfl, by kernel_rfl, by kernel_rfl, rfl, by kernel_rfl, ⟨by kernel_rfl, by kernel_rfl⟩⟩
theorem ti15 : TIok Try.prog 15 ⟨1, false, 8, [.pointer none], .ptr 268⟩ := ⟨by kernel_rfl, by kernel_rfl, by kernel_rfl, rfl, by kernel_rfl, by show _ = _; kernel_rfl⟩
theorem ti16 : TIok Try.prog 16 ⟨1, false, 8, [.pointer none], .ptr 271⟩ := ⟨by kernel_rfl, by kernel_rfl, by kernel_rfl, rfl, by kernel_rfl, by show _ = _; kernel_rfl⟩
theorem ti17 : TIok Try.prog 17 ⟨1, false, 8, [.pointer none], .ptr 279⟩ := ⟨by kernel_rfl, by kernel_rfl, by kernel_rfl, rfl, by kernel_rfl, by show _ = _; kernel_rfl⟩
theorem ti18 : TIok Try.prog 18 ⟨1, true, 8, [.pointer none], .strct [(0, 17)]⟩ := ⟨by kernel_rfl, by kernel_rfl, by kernel_rfl, rfl, by kernel_rfl, ⟨by kernel_rfl, by kernel_rfl⟩⟩
theorem ti19 : TIok Try.prog 19 ⟨1, true, 8, [.pointer none], .strct [(0, 17)]⟩ := ⟨by kernel_rfl, by kernel_rfl, by kernel_rfl, rfl, by kernel_rfl, ⟨by kernel_rfl, by kernel_rfl⟩⟩
theorem ti20 : TIok Try.prog 20 ⟨1, false, 16, [.nilIface], .iface⟩ := ⟨by kernel_rfl, by kernel_rfl, by kernel_rfl, rfl, by kernel_rfl, trivial⟩
theorem ti21 : TIok Try.prog 21 ⟨1, false, 4, [.int .i32 0], .int .i32⟩ := ⟨by kernel_rfl, by kernel_rfl, by kernel_rfl, rfl, by kernel_rfl, by show _ = _; kernel_rfl⟩
theorem ti22 : TIok Try.prog 22 ⟨1, false, 24, [.slice none 0 0], .slice 157⟩ := ⟨by kernel_rfl, by kernel_rfl, by kernel_rfl, rfl, by kernel_rfl, by show _ = _; kernel_rfl⟩
theorem ti23 : TIok Try.prog 23 ⟨1, true, 24, [.slice none 0 0], .strct [(0, 22)]⟩ := ⟨by kernel_rfl, by kernel_rfl, by kernel_rfl, rfl, by kernel_rfl, ⟨by kernel_rfl, by kernel_rfl⟩⟩
theorem ti24 : TIok Try.prog 24 ⟨1, true, 24, [.slice none 0 0], .strct [(0, 22)]⟩ := ⟨by kernel_rfl, by kernel_rfl, by kernel_rfl, rfl, by kernel_rfl, ⟨by kernel_rfl, by kernel_rfl⟩⟩
theorem ti25 : TIok Try.prog 25 ⟨1, false, 8, [.nilFunc], .func⟩ := ⟨by kernel_rfl, by kernel_rfl, by kernel_rfl, rfl, by kernel_rfl, trivial⟩
theorem ti26 : TIok Try.prog 26 ⟨1, false, 8, [.nilFunc], .func⟩ := ⟨by kernel_rfl, by kernel_rfl, by kernel_rfl, rfl, by kernel_rfl, trivial⟩
theorem ti27 : TIok Try.prog 27 ⟨1, false, 24, [.slice none 0 0], .slice 95⟩ := ⟨by kernel_rfl, by kernel_rfl, by kernel_rfl, rfl, by kernel_rfl, by show _ = _; kernel_rfl⟩
theorem ti28 : TIok Try.prog 28 ⟨1, true, 24, [.slice none 0 0], .strct [(0, 27)]⟩ := ⟨by kernel_rfl, by kernel_rfl, by kernel_rfl, rfl, by kernel_rfl, ⟨by kernel_rfl, by kernel_rfl⟩⟩
theorem ti29 : TIok Try.prog 29 ⟨1, true, 24, [.slice none 0 0], .strct [(0, 27)]⟩ := ⟨by kernel_rfl, by kernel_rfl, by kernel_rfl, rfl, by kernel_rfl, ⟨by kernel_rfl, by kernel_rfl⟩⟩
theorem ti30 : TIok Try.prog 30 ⟨1, false, 8, [.nilFunc], .func⟩ := ⟨by kernel_rfl, by kernel_rfl, by kernel_rfl, rfl, by kernel_rfl, trivial⟩
theorem ti31 : TIok Try.prog 31 ⟨1, false, 8, [.nilFunc], .func⟩ := ⟨by kernel_rfl, by kernel_rfl, by kernel_rfl, rfl, by kernel_rfl, trivial⟩
theorem ti32 : TIok Try.prog 32 ⟨1, false, 8, [.nilFunc], .func⟩ := ⟨by kernel_rfl, by kernel_rfl, by kernel_rfl, rfl, by kernel_rfl, trivial⟩
theorem ti33 : TIok Try.prog 33 ⟨1, false, 24, [.slice none 0 0], .slice 41⟩ := ⟨by kernel_rfl, by kernel_rfl, by kernel_rfl, rfl, by kernel_rfl, by show _ = _; kernel_rfl⟩
theorem ti34 : TIok Try.prog 34 ⟨1, false, 8, [.nilFunc], .func⟩ := ⟨by kernel_rfl, by kernel_rfl, by kernel_rfl, rfl, by kernel_rfl, trivial⟩
theorem ti35 : TIok Try.prog 35 ⟨1, false, 24, [.slice none 0 0], .slice 43⟩ := ⟨by kernel_rfl, by kernel_rfl, by kernel_rfl, rfl, by kernel_rfl, by show _ = _; kernel_rfl⟩
theorem ti36 : TIok Try.prog 36 ⟨1, false, 8, [.nilFunc], .func⟩ := ⟨by kernel_rfl, by kernel_rfl, by kernel_rfl, rfl, by kernel_rfl, trivial⟩
theorem ti37 : TIok Try.prog 37 ⟨1, false, 8, [.nilFunc], .func⟩ := ⟨by kernel_rfl, by kernel_rfl, by kernel_rfl, rfl, by kernel_rfl, trivial⟩
theorem ti38 : TIok Try.prog 38 ⟨1, false, 8, [.nilFunc], .func⟩ := ⟨by kernel_rfl, by kernel_rfl, by kernel_rfl, rfl, by kernel_rfl, trivial⟩
theorem ti39 : TIok Try.prog 39 ⟨1, false, 8, [.nilFunc], .func⟩ := ⟨by kernel_rfl, by kernel_rfl, by kernel_rfl, rfl, by kernel_rfl, trivial⟩
theorem ti40 : TIok Try.prog 40 ⟨1, false, 8, [.nilFunc], .func⟩ := ⟨by kernel_rfl, by kernel_rfl, by kernel_rfl, rfl, by kernel_rfl, trivial⟩
theorem ti41 : TIok Try.prog 41 ⟨1, false, 24, [.slice none 0 0], .slice 107⟩ := ⟨by kernel_rfl, by kernel_rfl, by kernel_rfl, rfl, by kernel_rfl, by show _ = _; kernel_rfl⟩
theorem ti42 : TIok Try.prog 42 ⟨1, false, 8, [.nilFunc], .func⟩ := ⟨by kernel_rfl, by kernel_rfl, by kernel_rfl, rfl, by kernel_rfl, trivial⟩
theorem ti43 : TIok Try.prog 43 ⟨1, false, 24, [.slice none 0 0], .slice 109⟩ := ⟨by kernel_rfl, by kernel_rfl, by kernel_rfl, rfl, by kernel_rfl, by show _ = _; kernel_rfl⟩
theorem ti45 : TIok Try.prog 45 ⟨1, false, 8, [.nilFunc], .func⟩ := ⟨by kernel_rfl, by kernel_rfl, by kernel_rfl, rfl, by kernel_rfl, trivial⟩
theorem ti46 : TIok Try.prog 46 ⟨1, false, 8, [.nilFunc], .func⟩ := ⟨by kernel_rfl, by kernel_rfl, by kernel_rfl, rfl, by kernel_rfl, trivial⟩
theorem ti47 : TIok Try.prog 47 ⟨1, false, 8, [.nilFunc], .func⟩ := ⟨by kernel_rfl, by kernel_rfl, by kernel_rfl, rfl, by kernel_rfl, trivial⟩
theorem ti48 : TIok Try.prog 48 ⟨1, false, 8, [.nilFunc], .func⟩ := ⟨by kernel_rfl, by kernel_rfl, by kernel_rfl, rfl, by kernel_rfl, trivial⟩
theorem ti49 : TIok Try.prog 49 ⟨1, false, 8, [.nilFunc], .func⟩ := ⟨by kernel_rfl, by kernel_rfl, by kernel_rfl, rfl, by kernel_rfl, trivial⟩
theorem ti50 : TIok Try.prog 50 ⟨1, false, 24, [.slice none 0 0], .slice 124⟩ := ⟨by kernel_rfl, by kernel_rfl, by kernel_rfl, rfl, by kernel_rfl, by show _ = _; kernel_rfl⟩
theorem ti51 : TIok Try.prog 51 ⟨1, false, 8, [.nilFunc], .func⟩ := ⟨by kernel_rfl, by kernel_rfl, by kernel_rfl, rfl, by kernel_rfl, trivial⟩
theorem ti52 : TIok Try.prog 52 ⟨1, false, 24, [.slice none 0 0], .slice 122⟩ := ⟨by kernel_rfl, by kernel_rfl, by kernel_rfl, rfl, by kernel_rfl, by show _ = _; kernel_rfl⟩
theorem ti54 : TIok Try.prog 54 ⟨1, false, 8, [.nilFunc], .func⟩ := ⟨by kernel_rfl, by kernel_rfl, by kernel_rfl, rfl, by kernel_rfl, trivial⟩
theorem ti55 : TIok Try.prog 55 ⟨1, false, 8, [.nilFunc], .func⟩ := ⟨by kernel_rfl, by kernel_rfl, by kernel_rfl, rfl, by kernel_rfl, trivial⟩
theorem ti56 : TIok Try.prog 56 ⟨1, false, 8, [.nilFunc], .func⟩ := ⟨by kernel_rfl, by kernel_rfl, by kernel_rfl, rfl, by kernel_rfl, trivial⟩
theorem ti57 : TIok Try.prog 57 ⟨1, false, 8, [.nilFunc], .func⟩ := ⟨by kernel_rfl, by kernel_rfl, by kernel_rfl, rfl, by kernel_rfl, trivial⟩
theorem ti58 : TIok Try.prog 58 ⟨1, false, 8, [.nilFunc], .func⟩ := ⟨by kernel_rfl, by kernel_rfl, by kernel_rfl, rfl, by kernel_rfl, trivial⟩
theorem ti59 : TIok Try.prog 59 ⟨1, false, 24, [.slice none 0 0], .slice 61⟩ := ⟨by kernel_rfl, by kernel_rfl, by kernel_rfl, rfl, by kernel_rfl, by show _ = _; kernel_rfl⟩
theorem ti60 : TIok Try.prog 60 ⟨4, true, 56, [.int .i64 0, .int .i64 0, .string ⟨#[]⟩, .slice none 0 0], .strct [(0, 3), (1, 3), (2, 9), (3, 59)]⟩ := ⟨by kernel_rfl, by kernel_rfl, by kernel_rfl, rfl, by kernel_rfl, ⟨by kernel_rfl, by kernel_rfl⟩⟩
theorem ti61 : TIok Try.prog 61 ⟨4, true, 56, [.int .i64 0, .int .i64 0, .string ⟨#[]⟩, .slice none 0 0], .strct [(0, 3), (1, 3), (2, 9), (3, 59)]⟩ := ⟨by kernel_rfl, by kernel_rfl, by kernel_rfl, rfl, by kernel_rfl, ⟨by kernel_rfl, by kernel_rfl⟩⟩
theorem ti62 : TIok Try.prog 62 ⟨1, false, 8, [.nilFunc], .func⟩ := ⟨by kernel_rfl, by kernel_rfl, by kernel_rfl, rfl, by kernel_rfl, trivial⟩
theorem ti63 : TIok Try.prog 63 ⟨1, false, 8, [.nilFunc], .func⟩ := ⟨by kernel_rfl, by kernel_rfl, by kernel_rfl, rfl, by kernel_rfl, trivial⟩
theorem ti64 : TIok Try.prog 64 ⟨1, false, 24, [.slice none 0 0], .slice 66⟩ := ⟨by kernel_rfl, by kernel_rfl, by kernel_rfl, rfl, by kernel_rfl, by show _ = _; kernel_rfl⟩
theorem ti65 : TIok Try.prog 65 ⟨4, true, 56, [.int .i64 0, .int .i64 0, .string ⟨#[]⟩, .slice none 0 0], .strct [(0, 3), (1, 3), (2, 9), (3, 64)]⟩ := ⟨by kernel_rfl, by kernel_rfl, by kernel_rfl, rfl, by kernel_rfl, ⟨by kernel_rfl, by kernel_rfl⟩⟩
theorem ti66 : TIok Try.prog 66 ⟨4, true, 56, [.int .i64 0, .int .i64 0, .string ⟨#[]⟩, .slice none 0 0], .strct [(0, 3), (1, 3), (2, 9), (3, 64)]⟩ := ⟨by kernel_rfl, by kernel_rfl, by kernel_rfl, rfl, by kernel_rfl, ⟨by kernel_rfl, by kernel_rfl⟩⟩
theorem ti67 : TIok Try.prog 67 ⟨1, false, 8, [.nilFunc], .func⟩ := ⟨by kernel_rfl, by kernel_rfl, by kernel_rfl, rfl, by kernel_rfl, trivial⟩
theorem ti68 : TIok Try.prog 68 ⟨1, false, 8, [.nilFunc], .func⟩ := ⟨by kernel_rfl, by kernel_rfl, by kernel_rfl, rfl, by kernel_rfl, trivial⟩
theorem ti69 : TIok Try.prog 69 ⟨1, false, 8, [.nilFunc], .func⟩ := ⟨by kernel_rfl, by kernel_rfl, by kernel_rfl, rfl, by kernel_rfl, trivial⟩
theorem ti70 : TIok Try.prog 70 ⟨1, false, 8, [.nilFunc], .func⟩ := ⟨by kernel_rfl, by kernel_rfl, by kernel_rfl, rfl, by kernel_rfl, trivial⟩
theorem ti71 : TIok Try.prog 71 ⟨1, false, 24, [.slice none 0 0], .slice 192⟩ := ⟨by kernel_rfl, by kernel_rfl, by kernel_rfl, rfl, by kernel_rfl, by show _ = _; kernel_rfl⟩
theorem ti72 : TIok Try.prog 72 ⟨1, false, 24, [.slice none 0 0], .slice 194⟩ := ⟨by kernel_rfl, by kernel_rfl, by kernel_rfl, rfl, by kernel_rfl, by show _ = _; kernel_rfl⟩
theorem ti73 : TIok Try.prog 73 ⟨2, true, 48, [.slice none 0 0, .slice none 0 0], .strct [(0, 71), (1, 72)]⟩ := ⟨by kernel_rfl, by kernel_rfl, by kernel_rfl, rfl, by kernel_rfl, ⟨by kernel_rfl, by kernel_rfl⟩⟩
theorem ti74 : TIok Try.prog 74 ⟨2, true, 48, [.slice none 0 0, .slice none 0 0], .strct [(0, 71), (1, 72)]⟩ := ⟨by kernel_rfl, by kernel_rfl, by kernel_rfl, rfl, by kernel_rfl, ⟨by kernel_rfl, by kernel_rfl⟩⟩
theorem ti75 : TIok Try.prog 75 ⟨1, false, 8, [.nilFunc], .func⟩ := ⟨by kernel_rfl, by kernel_rfl, by kernel_rfl, rfl, by kernel_rfl, trivial⟩
theorem ti76 : TIok Try.prog 76 ⟨1, false, 8, [.nilFunc], .func⟩ := ⟨by kernel_rfl, by kernel_rfl, by kernel_rfl, rfl, by kernel_rfl, trivial⟩
theorem ti77 : TIok Try.prog 77 ⟨1, false, 24, [.slice none 0 0], .slice 144⟩ := ⟨by kernel_rfl, by kernel_rfl, by kernel_rfl, rfl, by kernel_rfl, by show _ = _; kernel_rfl⟩
theorem ti78 : TIok Try.prog 78 ⟨1, false, 24, [.slice none 0 0], .slice 135⟩ := ⟨by kernel_rfl, by kernel_rfl, by kernel_rfl, rfl, by kernel_rfl, by show _ = _; kernel_rfl⟩
theorem ti79 : TIok Try.prog 79 ⟨2, true, 48, [.slice none 0 0, .slice none 0 0], .strct [(0, 77), (1, 78)]⟩ := ⟨by kernel_rfl, by kernel_rfl, by kernel_rfl, rfl, by kernel_rfl, ⟨by kernel_rfl, by kernel_rfl⟩⟩
theorem ti80 : TIok Try.prog 80 ⟨2, true, 48, [.slice none 0 0, .slice none 0 0], .strct [(0, 77), (1, 78)]⟩ := ⟨by kernel_rfl, by kernel_rfl, by kernel_rfl, rfl, by kernel_rfl, ⟨by kernel_rfl, by kernel_rfl⟩⟩
theorem ti81 : TIok Try.prog 81 ⟨1, false, 8, [.nilFunc], .func⟩ := ⟨by kernel_rfl, by kernel_rfl, by kernel_rfl, rfl, by kernel_rfl, trivial⟩
theorem ti82 : TIok Try.prog 82 ⟨1, false, 8, [.nilFunc], .func⟩ := ⟨by kernel_rfl, by kernel_rfl, by kernel_rfl, rfl, by kernel_rfl, trivial⟩
theorem ti83 : TIok Try.prog 83 ⟨1, false, 8, [.nilFunc], .func⟩ := ⟨by kernel_rfl, by kernel_rfl, by kernel_rfl, rfl, by kernel_rfl, trivial⟩
theorem ti84 : TIok Try.prog 84 ⟨1, false, 24, [.slice none 0 0], .slice 3⟩ := ⟨by kernel_rfl, by kernel_rfl, by kernel_rfl, rfl, by kernel_rfl, by show _ = _; kernel_rfl⟩
theorem ti85 : TIok Try.prog 85 ⟨1, false, 8, [.nilFunc], .func⟩ := ⟨by kernel_rfl, by kernel_rfl, by kernel_rfl, rfl, by kernel_rfl, trivial⟩
theorem ti86 : TIok Try.prog 86 ⟨1, false, 8, [.nilFunc], .func⟩ := ⟨by kernel_rfl, by kernel_rfl, by kernel_rfl, rfl, by kernel_rfl, trivial⟩
theorem ti87 : TIok Try.prog 87 ⟨1, false, 8, [.nilFunc], .func⟩ := ⟨by kernel_rfl, by kernel_rfl, by kernel_rfl, rfl, by kernel_rfl, trivial⟩
theorem ti88 : TIok Try.prog 88 ⟨1, false, 8, [.nilFunc], .func⟩ := ⟨by kernel_rfl, by kernel_rfl, by kernel_rfl, rfl, by kernel_rfl, trivial⟩
theorem ti89 : TIok Try.prog 89 ⟨1, false, 8, [.nilFunc], .func⟩ := ⟨by kernel_rfl, by kernel_rfl, by kernel_rfl, rfl, by kernel_rfl, trivial⟩
theorem ti90 : TIok Try.prog 90 ⟨1, false, 8, [.nilFunc], .func⟩ := ⟨by kernel_rfl, by kernel_rfl, by kernel_rfl, rfl, by kernel_rfl, trivial⟩
theorem ti91 : TIok Try.prog 91 ⟨1, false, 24, [.slice none 0 0], .slice 93⟩ := ⟨by kernel_rfl, by kernel_rfl, by kernel_rfl, rfl, by kernel_rfl, by show _ = _; kernel_rfl⟩
theorem ti92 : TIok Try.prog 92 ⟨4, true, 72, [.int .i64 0, .string ⟨#[]⟩, .slice none 0 0, .slice none 0 0], .strct [(0, 3), (1, 9), (2, 64), (3, 91)]⟩ := ⟨by kernel_rfl, by kernel_rfl, by kernel_rfl, rfl, by kernel_rfl, ⟨by kernel_rfl, by kernel_rfl⟩⟩
theorem ti93 : TIok Try.prog 93 ⟨4, true, 72, [.int .i64 0, .string ⟨#[]⟩, .slice none 0 0, .slice none 0 0], .strct [(0, 3), (1, 9), (2, 64), (3, 91)]⟩ := ⟨by kernel_rfl, by kernel_rfl, by kernel_rfl, rfl, by kernel_rfl, ⟨by kernel_rfl, by kernel_rfl⟩⟩
theorem ti94 : TIok Try.prog 94 ⟨7, true, 104, [.string ⟨#[]⟩, .int .i64 0, .int .i64 0, .int .i64 0, .string ⟨#[]⟩, .slice none 0 0, .slice none 0 0], .strct [(0, 9), (1, 3), (2, 3), (3, 93)]⟩ := ⟨by kernel_rfl, by kernel_rfl, by kernel_rfl, rfl, by kernel_rfl, ⟨by kernel_rfl, by kernel_rfl⟩⟩
theorem ti95 : TIok Try.prog 95 ⟨7, true, 104, [.string ⟨#[]⟩, .int .i64 0, .int .i64 0, .int .i64 0, .string ⟨#[]⟩, .slice none 0 0, .slice none 0 0], .strct [(0, 9), (1, 3), (2, 3), (3, 93)]⟩ := ⟨by kernel_rfl, by kernel_rfl, by kernel_rfl, rfl, by kernel_rfl, ⟨by kernel_rfl, by kernel_rfl⟩⟩
theorem ti96 : TIok Try.prog 96 ⟨1, false, 8, [.nilFunc], .func⟩ := ⟨by kernel_rfl, by kernel_rfl, by kernel_rfl, rfl, by kernel_rfl, trivial⟩
theorem ti97 : TIok Try.prog 97 ⟨1, false, 8, [.nilFunc], .func⟩ := ⟨by kernel_rfl, by kernel_rfl, by kernel_rfl, rfl, by kernel_rfl, trivial⟩
theorem ti98 : TIok Try.prog 98 ⟨1, false, 8, [.nilFunc], .func⟩ := ⟨by kernel_rfl, by kernel_rfl, by kernel_rfl, rfl, by kernel_rfl, trivial⟩
theorem ti99 : TIok Try.prog 99 ⟨1, false, 8, [.nilFunc], .func⟩ := ⟨by kernel_rfl, by kernel_rfl, by kernel_rfl, rfl, by kernel_rfl, trivial⟩
theorem ti100 : TIok Try.prog 100 ⟨1, false, 8, [.nilFunc], .func⟩ := ⟨by kernel_rfl, by kernel_rfl, by kernel_rfl, rfl, by kernel_rfl, trivial⟩
theorem ti101 : TIok Try.prog 101 ⟨1, false, 8, [.nilFunc], .func⟩ := ⟨by kernel_rfl, by kernel_rfl, by kernel_rfl, rfl, by kernel_rfl, trivial⟩
theorem ti102 : TIok Try.prog 102 ⟨1, false, 8, [.nilFunc], .func⟩ := ⟨by kernel_rfl, by kernel_rfl, by kernel_rfl, rfl, by kernel_rfl, trivial⟩
theorem ti103 : TIok Try.prog 103 ⟨1, false, 8, [.nilFunc], .func⟩ := ⟨by kernel_rfl, by kernel_rfl, by kernel_rfl, rfl, by kernel_rfl, trivial⟩
theorem ti104 : TIok Try.prog 104 ⟨1, false, 8, [.nilFunc], .func⟩ := ⟨by kernel_rfl, by kernel_rfl, by kernel_rfl, rfl, by kernel_rfl, trivial⟩
theorem ti105 : TIok Try.prog 105 ⟨1, false, 8, [.nilFunc], .func⟩ := ⟨by kernel_rfl, by kernel_rfl, by kernel_rfl, rfl, by kernel_rfl, trivial⟩
theorem ti106 : TIok Try.prog 106 ⟨5, true, 64, [.int .i64 0, .int .i64 0, .int .i64 0, .string ⟨#[]⟩, .slice none 0 0], .strct [(0, 3), (1, 61)]⟩ := ⟨by kernel_rfl, by kernel_rfl, by kernel_rfl, rfl, by kernel_rfl, ⟨by kernel_rfl, by kernel_rfl⟩⟩
theorem ti107 : TIok Try.prog 107 ⟨5, true, 64, [.int .i64 0, .int .i64 0, .int .i64 0, .string ⟨#[]⟩, .slice none 0 0], .strct [(0, 3), (1, 61)]⟩ := ⟨by kernel_rfl, by kernel_rfl, by kernel_rfl, rfl, by kernel_rfl, ⟨by kernel_rfl, by kernel_rfl⟩⟩
theorem ti108 : TIok Try.prog 108 ⟨5, true, 64, [.int .i64 0, .int .i64 0, .int .i64 0, .string ⟨#[]⟩, .slice none 0 0], .strct [(0, 3), (1, 66)]⟩ := ⟨by kernel_rfl, by kernel_rfl, by kernel_rfl, rfl, by kernel_rfl, ⟨by kernel_rfl, by kernel_rfl⟩⟩
theorem ti109 : TIok Try.prog 109 ⟨5, true, 64, [.int .i64 0, .int .i64 0, .int .i64 0, .string ⟨#[]⟩, .slice none 0 0], .strct [(0, 3), (1, 66)]⟩ := ⟨by kernel_rfl, by kernel_rfl, by kernel_rfl, rfl, by kernel_rfl, ⟨by kernel_rfl, by kernel_rfl⟩⟩
theorem ti111 : TIok Try.prog 111 ⟨1, false, 8, [.nilFunc], .func⟩ := ⟨by kernel_rfl, by kernel_rfl, by kernel_rfl, rfl, by kernel_rfl, trivial⟩
theorem ti112 : TIok Try.prog 112 ⟨1, false, 8, [.nilFunc], .func⟩ := ⟨by kernel_rfl, by kernel_rfl, by kernel_rfl, rfl, by kernel_rfl, trivial⟩
theorem ti113 : TIok Try.prog 113 ⟨1, false, 8, [.nilFunc], .func⟩ := ⟨by kernel_rfl, by kernel_rfl, by kernel_rfl, rfl, by kernel_rfl, trivial⟩
theorem ti114 : TIok Try.prog 114 ⟨1, false, 8, [.nilFunc], .func⟩ := ⟨by kernel_rfl, by kernel_rfl, by kernel_rfl, rfl, by kernel_rfl, trivial⟩
theorem ti115 : TIok Try.prog 115 ⟨1, false, 8, [.nilFunc], .func⟩ := ⟨by kernel_rfl, by kernel_rfl, by kernel_rfl, rfl, by kernel_rfl, trivial⟩
theorem ti116 : TIok Try.prog 116 ⟨1, false, 8, [.nilFunc], .func⟩ := ⟨by kernel_rfl, by kernel_rfl, by kernel_rfl, rfl, by kernel_rfl, trivial⟩
theorem ti117 : TIok Try.prog 117 ⟨1, false, 8, [.nilFunc], .func⟩ := ⟨by kernel_rfl, by kernel_rfl, by kernel_rfl, rfl, by kernel_rfl, trivial⟩
theorem ti118 : TIok Try.prog 118 ⟨1, false, 8, [.nilFunc], .func⟩ := ⟨by kernel_rfl, by kernel_rfl, by kernel_rfl, rfl, by kernel_rfl, trivial⟩
theorem ti119 : TIok Try.prog 119 ⟨1, false, 8, [.nilFunc], .func⟩ := ⟨by kernel_rfl, by kernel_rfl, by kernel_rfl, rfl, by kernel_rfl, trivial⟩
theorem ti120 : TIok Try.prog 120 ⟨1, false, 8, [.nilFunc], .func⟩ := ⟨by kernel_rfl, by kernel_rfl, by kernel_rfl, rfl, by kernel_rfl, trivial⟩
theorem ti121 : TIok Try.prog 121 ⟨2, true, 16, [.int .i64 0, .int .i64 0], .strct [(0, 3), (1, 3)]⟩ := ⟨by kernel_rfl, by kernel_rfl, by kernel_rfl, rfl, by kernel_rfl, ⟨by kernel_rfl, by kernel_rfl⟩⟩
theorem ti122 : TIok Try.prog 122 ⟨2, true, 16, [.int .i64 0, .int .i64 0], .strct [(0, 3), (1, 3)]⟩ := ⟨by kernel_rfl, by kernel_rfl, by kernel_rfl, rfl, by kernel_rfl, ⟨by kernel_rfl, by kernel_rfl⟩⟩
theorem ti123 : TIok Try.prog 123 ⟨1, false, 8, [.nilFunc], .func⟩ := ⟨by kernel_rfl, by kernel_rfl, by kernel_rfl, rfl, by kernel_rfl, trivial⟩
theorem ti124 : TIok Try.prog 124 ⟨2, true, 16, [.int .i64 0, .int .i64 0], .strct [(0, 3), (1, 3)]⟩ := ⟨by kernel_rfl, by kernel_rfl, by kernel_rfl, rfl, by kernel_rfl, ⟨by kernel_rfl, by kernel_rfl⟩⟩
theorem ti125 : TIok Try.prog 125 ⟨1, false, 8, [.nilFunc], .func⟩ := ⟨by kernel_rfl, by kernel_rfl, by kernel_rfl, rfl, by kernel_rfl, trivial⟩
theorem ti126 : TIok Try.prog 126 ⟨1, false, 8, [.nilFunc], .func⟩ := ⟨by kernel_rfl, by kernel_rfl, by kernel_rfl, rfl, by kernel_rfl, trivial⟩
theorem ti127 : TIok Try.prog 127 ⟨1, false, 8, [.nilFunc], .func⟩ := ⟨by kernel_rfl, by kernel_rfl, by kernel_rfl, rfl, by kernel_rfl, trivial⟩
theorem ti128 : TIok Try.prog 128 ⟨1, false, 8, [.nilFunc], .func⟩ := ⟨by kernel_rfl, by kernel_rfl, by kernel_rfl, rfl, by kernel_rfl, trivial⟩
theorem ti129 : TIok Try.prog 129 ⟨1, false, 8, [.nilFunc], .func⟩ := ⟨by kernel_rfl, by kernel_rfl, by kernel_rfl, rfl, by kernel_rfl, trivial⟩
theorem ti130 : TIok Try.prog 130 ⟨1, false, 8, [.nilFunc], .func⟩ := ⟨by kernel_rfl, by kernel_rfl, by kernel_rfl, rfl, by kernel_rfl, trivial⟩
theorem ti131 : TIok Try.prog 131 ⟨1, false, 8, [.nilFunc], .func⟩ := ⟨by kernel_rfl, by kernel_rfl, by kernel_rfl, rfl, by kernel_rfl, trivial⟩
theorem ti132 : TIok Try.prog 132 ⟨1, false, 8, [.nilFunc], .func⟩ := ⟨by kernel_rfl, by kernel_rfl, by kernel_rfl, rfl, by kernel_rfl, trivial⟩
theorem ti133 : TIok Try.prog 133 ⟨1, false, 8, [.nilFunc], .func⟩ := ⟨by kernel_rfl, by kernel_rfl, by kernel_rfl, rfl, by kernel_rfl, trivial⟩
theorem ti134 : TIok Try.prog 134 ⟨4, true, 40, [.string ⟨#[]⟩, .int .i64 0, .int .i64 0, .int .i64 0], .strct [(0, 9), (1, 3), (2, 3), (3, 3)]⟩ := ⟨by kernel_rfl, by kernel_rfl, by kernel_rfl, rfl, by kernel_rfl, ⟨by kernel_rfl, by kernel_rfl⟩⟩
theorem ti135 : TIok Try.prog 135 ⟨4, true, 40, [.string ⟨#[]⟩, .int .i64 0, .int .i64 0, .int .i64 0], .strct [(0, 9), (1, 3), (2, 3), (3, 3)]⟩ := ⟨by kernel_rfl, by kernel_rfl, by kernel_rfl, rfl, by kernel_rfl, ⟨by kernel_rfl, by kernel_rfl⟩⟩
theorem ti136 : TIok Try.prog 136 ⟨1, false, 8, [.nilFunc], .func⟩ := ⟨by kernel_rfl, by kernel_rfl, by kernel_rfl, rfl, by kernel_rfl, trivial⟩
theorem ti137 : TIok Try.prog 137 ⟨1, false, 8, [.nilFunc], .func⟩ := ⟨by kernel_rfl, by kernel_rfl, by kernel_rfl, rfl, by kernel_rfl, trivial⟩
theorem ti138 : TIok Try.prog 138 ⟨1, false, 8, [.nilFunc], .func⟩ := ⟨by kernel_rfl, by kernel_rfl, by kernel_rfl, rfl, by kernel_rfl, trivial⟩
theorem ti139 : TIok Try.prog 139 ⟨1, false, 8, [.nilFunc], .func⟩ := ⟨by kernel_rfl, by kernel_rfl, by kernel_rfl, rfl, by kernel_rfl, trivial⟩
theorem ti140 : TIok Try.prog 140 ⟨1, false, 8, [.nilFunc], .func⟩ := ⟨by kernel_rfl, by kernel_rfl, by kernel_rfl, rfl, by kernel_rfl, trivial⟩
theorem ti141 : TIok Try.prog 141 ⟨1, false, 8, [.nilFunc], .func⟩ := ⟨by kernel_rfl, by kernel_rfl, by kernel_rfl, rfl, by kernel_rfl, trivial⟩
theorem ti142 : TIok Try.prog 142 ⟨1, false, 8, [.nilFunc], .func⟩ := ⟨by kernel_rfl, by kernel_rfl, by kernel_rfl, rfl, by kernel_rfl, trivial⟩
theorem ti143 : TIok Try.prog 143 ⟨7, true, 96, [.int .i64 0, .int .i64 0, .int .i64 0, .int .i64 0, .string ⟨#[]⟩, .slice none 0 0, .slice none 0 0], .strct [(0, 3), (1, 3), (2, 3), (3, 93)]⟩ := ⟨by kernel_rfl, by kernel_rfl, by kernel_rfl, rfl, by kernel_rfl, ⟨by kernel_rfl, by kernel_rfl⟩⟩
theorem ti144 : TIok Try.prog 144 ⟨7, true, 96, [.int .i64 0, .int .i64 0, .int .i64 0, .int .i64 0, .string ⟨#[]⟩, .slice none 0 0, .slice none 0 0], .strct [(0, 3), (1, 3), (2, 3), (3, 93)]⟩ := ⟨by kernel_rfl, by kernel_rfl, by kernel_rfl, rfl, by kernel_rfl, ⟨by kernel_rfl, by kernel_rfl⟩⟩
theorem ti145 : TIok Try.prog 145 ⟨1, false, 8, [.nilFunc], .func⟩ := ⟨by kernel_rfl, by kernel_rfl, by kernel_rfl, rfl, by kernel_rfl, trivial⟩
theorem ti146 : TIok Try.prog 146 ⟨1, false, 8, [.nilFunc], .func⟩ := ⟨by kernel_rfl, by kernel_rfl, by kernel_rfl, rfl, by kernel_rfl, trivial⟩
theorem ti147 : TIok Try.prog 147 ⟨1, false, 8, [.nilFunc], .func⟩ := ⟨by kernel_rfl, by kernel_rfl, by kernel_rfl, rfl, by kernel_rfl, trivial⟩
theorem ti148 : TIok Try.prog 148 ⟨1, false, 24, [.slice none 0 0], .slice 91⟩ := ⟨by kernel_rfl, by kernel_rfl, by kernel_rfl, rfl, by kernel_rfl, by show _ = _; kernel_rfl⟩
theorem ti150 : TIok Try.prog 150 ⟨1, false, 8, [.nilFunc], .func⟩ := ⟨by kernel_rfl, by kernel_rfl, by kernel_rfl, rfl, by kernel_rfl, trivial⟩
theorem ti151 : TIok Try.prog 151 ⟨1, false, 8, [.int .u64 0], .int .u64⟩ := ⟨by kernel_rfl, by kernel_rfl, by kernel_rfl, rfl, by kernel_rfl, by show _ = _; kernel_rfl⟩
theorem ti152 : TIok Try.prog 152 ⟨1, false, 8, [.nilFunc], .func⟩ := ⟨by kernel_rfl, by kernel_rfl, by kernel_rfl, rfl, by kernel_rfl, trivial⟩
theorem ti153 : TIok Try.prog 153 ⟨1, false, 24, [.slice none 0 0], .slice 155⟩ := ⟨by kernel_rfl, by kernel_rfl, by kernel_rfl, rfl, by kernel_rfl, by show _ = _; kernel_rfl⟩
theorem ti154 : TIok Try.prog 154 ⟨4, true, 72, [.int .i64 0, .string ⟨#[]⟩, .slice none 0 0, .slice none 0 0], .strct [(0, 3), (1, 9), (2, 59), (3, 153)]⟩ := ⟨by kernel_rfl, by kernel_rfl, by kernel_rfl, rfl, by kernel_rfl, ⟨by kernel_rfl, by kernel_rfl⟩⟩
theorem ti155 : TIok Try.prog 155 ⟨4, true, 72, [.int .i64 0, .string ⟨#[]⟩, .slice none 0 0, .slice none 0 0], .strct [(0, 3), (1, 9), (2, 59), (3, 153)]⟩ := ⟨by kernel_rfl, by kernel_rfl, by kernel_rfl, rfl, by kernel_rfl, ⟨by kernel_rfl, by kernel_rfl⟩⟩
theorem ti156 : TIok Try.prog 156 ⟨7, true, 104, [.string ⟨#[]⟩, .int .i64 0, .int .i64 0, .int .i64 0, .string ⟨#[]⟩, .slice none 0 0, .slice none 0 0], .strct [(0, 9), (1, 3), (2, 3), (3, 155)]⟩ := ⟨by kernel_rfl, by kernel_rfl, by kernel_rfl, rfl, by kernel_rfl, ⟨by kernel_rfl, by kernel_rfl⟩⟩
theorem ti157 : TIok Try.prog 157 ⟨7, true, 104, [.string ⟨#[]⟩, .int .i64 0, .int .i64 0, .int .i64 0, .string ⟨#[]⟩, .slice none 0 0, .slice none 0 0], .strct [(0, 9), (1, 3), (2, 3), (3, 155)]⟩ := ⟨by kernel_rfl, by kernel_rfl, by kernel_rfl, rfl, by kernel_rfl, ⟨by kernel_rfl, by kernel_rfl⟩⟩
theorem ti158 : TIok Try.prog 158 ⟨1, false, 8, [.nilFunc], .func⟩ := ⟨by kernel_rfl, by kernel_rfl, by kernel_rfl, rfl, by kernel_rfl, trivial⟩
theorem ti159 : TIok Try.prog 159 ⟨1, false, 8, [.nilFunc], .func⟩ := ⟨by kernel_rfl, by kernel_rfl, by kernel_rfl, rfl, by kernel_rfl, trivial⟩
theorem ti160 : TIok Try.prog 160 ⟨1, false, 8, [.nilFunc], .func⟩ := ⟨by kernel_rfl, by kernel_rfl, by kernel_rfl, rfl, by kernel_rfl, trivial⟩
theorem ti161 : TIok Try.prog 161 ⟨1, false, 8, [.nilFunc], .func⟩ := ⟨by kernel_rfl, by kernel_rfl, by kernel_rfl, rfl, by kernel_rfl, trivial⟩
theorem ti162 : TIok Try.prog 162 ⟨1, false, 8, [.nilFunc], .func⟩ := ⟨by kernel_rfl, by kernel_rfl, by kernel_rfl, rfl, by kernel_rfl, trivial⟩
theorem ti163 : TIok Try.prog 163 ⟨1, false, 8, [.nilFunc], .func⟩ := ⟨by kernel_rfl, by kernel_rfl, by kernel_rfl, rfl, by kernel_rfl, trivial⟩
theorem ti164 : TIok Try.prog 164 ⟨1, false, 8, [.nilFunc], .func⟩ := ⟨by kernel_rfl, by kernel_rfl, by kernel_rfl, rfl, by kernel_rfl, trivial⟩
theorem ti165 : TIok Try.prog 165 ⟨1, false, 8, [.nilFunc], .func⟩ := ⟨by kernel_rfl, by kernel_rfl, by kernel_rfl, rfl, by kernel_rfl, trivial⟩
theorem ti166 : TIok Try.prog 166 ⟨1, false, 8, [.nilFunc], .func⟩ := ⟨by kernel_rfl, by kernel_rfl, by kernel_rfl, rfl, by kernel_rfl, trivial⟩
theorem ti167 : TIok Try.prog 167 ⟨1, false, 8, [.nilFunc], .func⟩ := ⟨by kernel_rfl, by kernel_rfl, by kernel_rfl, rfl, by kernel_rfl, trivial⟩
theorem ti169 : TIok Try.prog 169 ⟨1, false, 8, [.int .u64 0], .int .u64⟩ := ⟨by kernel_rfl, by kernel_rfl, by kernel_rfl, rfl, by kernel_rfl, by show _ = _; kernel_rfl⟩
theorem ti170 : TIok Try.prog 170 ⟨3, true, 24, [.pointer none, .pointer none, .int .u64 0], .strct [(0, 17), (1, 168), (2, 169)]⟩ := ⟨by kernel_rfl, by kernel_rfl, by kernel_rfl, rfl, by kernel_rfl, ⟨by kernel_rfl, by kernel_rfl⟩⟩
theorem ti171 : TIok Try.prog 171 ⟨3, true, 24, [.pointer none, .pointer none, .int .u64 0], .strct [(0, 17), (1, 168), (2, 169)]⟩ := ⟨by kernel_rfl, by kernel_rfl, by kernel_rfl, rfl, by kernel_rfl, ⟨by kernel_rfl, by kernel_rfl⟩⟩
theorem ti172 : TIok Try.prog 172 ⟨1, false, 8, [.nilFunc], .func⟩ := ⟨by kernel_rfl, by kernel_rfl, by kernel_rfl, rfl, by kernel_rfl, trivial⟩
theorem ti173 : TIok Try.prog 173 ⟨1, false, 8, [.nilFunc], .func⟩ := ⟨by kernel_rfl, by kernel_rfl, by kernel_rfl, rfl, by kernel_rfl, trivial⟩
theorem ti174 : TIok Try.prog 174 ⟨1, false, 8, [.nilFunc], .func⟩ := ⟨by kernel_rfl, by kernel_rfl, by kernel_rfl, rfl, by kernel_rfl, trivial⟩
theorem ti175 : TIok Try.prog 175 ⟨1, false, 8, [.nilFunc], .func⟩ := ⟨by kernel_rfl, by kernel_rfl, by kernel_rfl, rfl, by kernel_rfl, trivial⟩
theorem ti176 : TIok Try.prog 176 ⟨2, true, 16, [.nilFunc, .nilFunc], .strct [(0, 103), (1, 173)]⟩ := ⟨by kernel_rfl, by kernel_rfl, by kernel_rfl, rfl, by kernel_rfl, ⟨by kernel_rfl, by kernel_rfl⟩⟩
theorem ti177 : TIok Try.prog 177 ⟨2, true, 16, [.nilFunc, .nilFunc], .strct [(0, 103), (1, 173)]⟩ := ⟨by kernel_rfl, by kernel_rfl, by kernel_rfl, rfl, by kernel_rfl, ⟨by kernel_rfl, by kernel_rfl⟩⟩
theorem ti178 : TIok Try.prog 178 ⟨1, false, 8, [.nilFunc], .func⟩ := ⟨by kernel_rfl, by kernel_rfl, by kernel_rfl, rfl, by kernel_rfl, trivial⟩
theorem ti179 : TIok Try.prog 179 ⟨1, false, 8, [.nilFunc], .func⟩ := ⟨by kernel_rfl, by kernel_rfl, by kernel_rfl, rfl, by kernel_rfl, trivial⟩
theorem ti180 : TIok Try.prog 180 ⟨1, false, 8, [.nilFunc], .func⟩ := ⟨by kernel_rfl, by kernel_rfl, by kernel_rfl, rfl, by kernel_rfl, trivial⟩
theorem ti181 : TIok Try.prog 181 ⟨1, false, 8, [.nilFunc], .func⟩ := ⟨by kernel_rfl, by kernel_rfl, by kernel_rfl, rfl, by kernel_rfl, trivial⟩
theorem ti182 : TIok Try.prog 182 ⟨1, false, 8, [.nilFunc], .func⟩ := ⟨by kernel_rfl, by kernel_rfl, by kernel_rfl, rfl, by kernel_rfl, trivial⟩
theorem ti183 : TIok Try.prog 183 ⟨1, false, 8, [.nilFunc], .func⟩ := ⟨by kernel_rfl, by kernel_rfl, by kernel_rfl, rfl, by kernel_rfl, trivial⟩
theorem ti184 : TIok Try.prog 184 ⟨1, false, 8, [.nilFunc], .func⟩ := ⟨by kernel_rfl, by kernel_rfl, by kernel_rfl, rfl, by kernel_rfl, trivial⟩
theorem ti185 : TIok Try.prog 185 ⟨1, false, 8, [.nilFunc], .func⟩ := ⟨by kernel_rfl, by kernel_rfl, by kernel_rfl, rfl, by kernel_rfl, trivial⟩
theorem ti186 : TIok Try.prog 186 ⟨1, false, 8, [.nilFunc], .func⟩ := ⟨by kernel_rfl, by kernel_rfl, by kernel_rfl, rfl, by kernel_rfl, trivial⟩
theorem ti187 : TIok Try.prog 187 ⟨1, false, 24, [.slice none 0 0], .slice 5⟩ := ⟨by kernel_rfl, by kernel_rfl, by kernel_rfl, rfl, by kernel_rfl, by show _ = _; kernel_rfl⟩
theorem ti188 : TIok Try.prog 188 ⟨1, false, 8, [.nilFunc], .func⟩ := ⟨by kernel_rfl, by kernel_rfl, by kernel_rfl, rfl, by kernel_rfl, trivial⟩
theorem ti189 : TIok Try.prog 189 ⟨1, false, 8, [.nilFunc], .func⟩ := ⟨by kernel_rfl, by kernel_rfl, by kernel_rfl, rfl, by kernel_rfl, trivial⟩
theorem ti190 : TIok Try.prog 190 ⟨1, false, 8, [.nilFunc], .func⟩ := ⟨by kernel_rfl, by kernel_rfl, by kernel_rfl, rfl, by kernel_rfl, trivial⟩
theorem ti191 : TIok Try.prog 191 ⟨7, true, 96, [.int .i64 0, .int .i64 0, .int .i64 0, .int .i64 0, .string ⟨#[]⟩, .slice none 0 0, .slice none 0 0], .strct [(0, 3), (1, 3), (2, 3), (3, 155)]⟩ := ⟨by kernel_rfl, by kernel_rfl, by kernel_rfl, rfl, by kernel_rfl, ⟨by kernel_rfl, by kernel_rfl⟩⟩
theorem ti192 : TIok Try.prog 192 ⟨7, true, 96, [.int .i64 0, .int .i64 0, .int .i64 0, .int .i64 0, .string ⟨#[]⟩, .slice none 0 0, .slice none 0 0], .strct [(0, 3), (1, 3), (2, 3), (3, 155)]⟩ := ⟨by kernel_rfl, by kernel_rfl, by kernel_rfl, rfl, by kernel_rfl, ⟨by kernel_rfl, by kernel_rfl⟩⟩
theorem ti193 : TIok Try.prog 193 ⟨1, false, 8, [.nilFunc], .func⟩ := ⟨by kernel_rfl, by kernel_rfl, by kernel_rfl, rfl, by kernel_rfl, trivial⟩
theorem ti194 : TIok Try.prog 194 ⟨4, true, 40, [.string ⟨#[]⟩, .int .i64 0, .int .i64 0, .int .i64 0], .strct [(0, 9), (1, 3), (2, 3), (3, 3)]⟩ := ⟨by kernel_rfl, by kernel_rfl, by kernel_rfl, rfl, by kernel_rfl, ⟨by kernel_rfl, by kernel_rfl⟩⟩
theorem ti195 : TIok Try.prog 195 ⟨1, false, 24, [.slice none 0 0], .slice 9⟩ := ⟨by kernel_rfl, by kernel_rfl, by kernel_rfl, rfl, by kernel_rfl, by show _ = _; kernel_rfl⟩
theorem ti196 : TIok Try.prog 196 ⟨1, false, 8, [.nilFunc], .func⟩ := ⟨by kernel_rfl, by kernel_rfl, by kernel_rfl, rfl, by kernel_rfl, trivial⟩
theorem ti197 : TIok Try.prog 197 ⟨1, false, 8, [.nilFunc], .func⟩ := ⟨by kernel_rfl, by kernel_rfl, by kernel_rfl, rfl, by kernel_rfl, trivial⟩
theorem ti198 : TIok Try.prog 198 ⟨1, false, 8, [.nilFunc], .func⟩ := ⟨by kernel_rfl, by kernel_rfl, by kernel_rfl, rfl, by kernel_rfl, trivial⟩
theorem ti199 : TIok Try.prog 199 ⟨1, false, 8, [.nilFunc], .func⟩ := ⟨by kernel_rfl, by kernel_rfl, by kernel_rfl, rfl, by kernel_rfl, trivial⟩
theorem ti200 : TIok Try.prog 200 ⟨1, false, 8, [.nilFunc], .func⟩ := ⟨by kernel_rfl, by kernel_rfl, by kernel_rfl, rfl, by kernel_rfl, trivial⟩
theorem ti201 : TIok Try.prog 201 ⟨1, false, 8, [.nilFunc], .func⟩ := ⟨by kernel_rfl, by kernel_rfl, by kernel_rfl, rfl, by kernel_rfl, trivial⟩
theorem ti202 : TIok Try.prog 202 ⟨1, false, 8, [.nilFunc], .func⟩ := ⟨by kernel_rfl, by kernel_rfl, by kernel_rfl, rfl, by kernel_rfl, trivial⟩
theorem ti203 : TIok Try.prog 203 ⟨1, false, 8, [.nilFunc], .func⟩ := ⟨by kernel_rfl, by kernel_rfl, by kernel_rfl, rfl, by kernel_rfl, trivial⟩
theorem ti204 : TIok Try.prog 204 ⟨1, false, 8, [.nilFunc], .func⟩ := ⟨by kernel_rfl, by kernel_rfl, by kernel_rfl, rfl, by kernel_rfl, trivial⟩
theorem ti205 : TIok Try.prog 205 ⟨1, false, 8, [.nilFunc], .func⟩ := ⟨by kernel_rfl, by kernel_rfl, by kernel_rfl, rfl, by kernel_rfl, trivial⟩
theorem ti206 : TIok Try.prog 206 ⟨1, false, 8, [.nilFunc], .func⟩ := ⟨by kernel_rfl, by kernel_rfl, by kernel_rfl, rfl, by kernel_rfl, trivial⟩
theorem ti207 : TIok Try.prog 207 ⟨1, false, 8, [.nilFunc], .func⟩ := ⟨by kernel_rfl, by kernel_rfl, by kernel_rfl, rfl, by kernel_rfl, trivial⟩
theorem ti208 : TIok Try.prog 208 ⟨1, false, 8, [.map none], .map 3 3⟩ := ⟨by kernel_rfl, by kernel_rfl, by kernel_rfl, rfl, by kernel_rfl, by show _ = _; kernel_rfl⟩
theorem ti209 : TIok Try.prog 209 ⟨1, false, 8, [.nilFunc], .func⟩ := ⟨by kernel_rfl, by kernel_rfl, by kernel_rfl, rfl, by kernel_rfl, trivial⟩
theorem ti210 : TIok Try.prog 210 ⟨1, false, 8, [.nilFunc], .func⟩ := ⟨by kernel_rfl, by kernel_rfl, by kernel_rfl, rfl, by kernel_rfl, trivial⟩
theorem ti211 : TIok Try.prog 211 ⟨1, false, 8, [.nilFunc], .func⟩ := ⟨by kernel_rfl, by kernel_rfl, by kernel_rfl, rfl, by kernel_rfl, trivial⟩
theorem ti212 : TIok Try.prog 212 ⟨1, false, 8, [.nilFunc], .func⟩ := ⟨by kernel_rfl, by kernel_rfl, by kernel_rfl, rfl, by kernel_rfl, trivial⟩
theorem ti213 : TIok Try.prog 213 ⟨1, false, 8, [.nilFunc], .func⟩ := ⟨by kernel_rfl, by kernel_rfl, by kernel_rfl, rfl, by kernel_rfl, trivial⟩
theorem ti214 : TIok Try.prog 214 ⟨1, true, 8, [.pointer none], .strct [(0, 17)]⟩ := ⟨by kernel_rfl, by kernel_rfl, by kernel_rfl, rfl, by kernel_rfl, ⟨by kernel_rfl, by kernel_rfl⟩⟩
theorem ti215 : TIok Try.prog 215 ⟨1, true, 8, [.pointer none], .strct [(0, 17)]⟩ := ⟨by kernel_rfl, by kernel_rfl, by kernel_rfl, rfl, by kernel_rfl, ⟨by kernel_rfl, by kernel_rfl⟩⟩
theorem ti216 : TIok Try.prog 216 ⟨1, false, 8, [.pointer none], .ptr 281⟩ := ⟨by kernel_rfl, by kernel_rfl, by kernel_rfl, rfl, by kernel_rfl, by show _ = _; kernel_rfl⟩
theorem ti217 : TIok Try.prog 217 ⟨1, false, 8, [.nilFunc], .func⟩ := ⟨by kernel_rfl, by kernel_rfl, by kernel_rfl, rfl, by kernel_rfl, trivial⟩
theorem ti218 : TIok Try.prog 218 ⟨1, false, 8, [.nilFunc], .func⟩ := ⟨by kernel_rfl, by kernel_rfl, by kernel_rfl, rfl, by kernel_rfl, trivial⟩
theorem ti219 : TIok Try.prog 219 ⟨1, false, 8, [.nilFunc], .func⟩ := ⟨by kernel_rfl, by kernel_rfl, by kernel_rfl, rfl, by kernel_rfl, trivial⟩
theorem ti220 : TIok Try.prog 220 ⟨1, false, 8, [.nilFunc], .func⟩ := ⟨by kernel_rfl, by kernel_rfl, by kernel_rfl, rfl, by kernel_rfl, trivial⟩
theorem ti221 : TIok Try.prog 221 ⟨1, false, 8, [.nilFunc], .func⟩ := ⟨by kernel_rfl, by kernel_rfl, by kernel_rfl, rfl, by kernel_rfl, trivial⟩
theorem ti222 : TIok Try.prog 222 ⟨1, false, 8, [.nilFunc], .func⟩ := ⟨by kernel_rfl, by kernel_rfl, by kernel_rfl, rfl, by kernel_rfl, trivial⟩
theorem ti223 : TIok Try.prog 223 ⟨1, false, 8, [.nilFunc], .func⟩ := ⟨by kernel_rfl, by kernel_rfl, by kernel_rfl, rfl, by kernel_rfl, trivial⟩
theorem ti224 : TIok Try.prog 224 ⟨1, false, 4, [.int .u32 0], .int .u32⟩ := ⟨by kernel_rfl, by kernel_rfl, by kernel_rfl, rfl, by kernel_rfl, by show _ = _; kernel_rfl⟩
theorem ti225 : TIok Try.prog 225 ⟨1, false, 8, [.nilFunc], .func⟩ := ⟨by kernel_rfl, by kernel_rfl, by kernel_rfl, rfl, by kernel_rfl, trivial⟩
theorem ti226 : TIok Try.prog 226 ⟨1, false, 8, [.int .u64 0], .int .u64⟩ := ⟨by kernel_rfl, by kernel_rfl, by kernel_rfl, rfl, by kernel_rfl, by show _ = _; kernel_rfl⟩
theorem ti227 : TIok Try.prog 227 ⟨1, false, 8, [.int .i64 0], .int .i64⟩ := ⟨by kernel_rfl, by kernel_rfl, by kernel_rfl, rfl, by kernel_rfl, by show _ = _; kernel_rfl⟩
theorem ti229 : TIok Try.prog 229 ⟨1, false, 8, [.nilFunc], .func⟩ := ⟨by kernel_rfl, by kernel_rfl, by kernel_rfl, rfl, by kernel_rfl, trivial⟩
theorem ti230 : TIok Try.prog 230 ⟨1, false, 8, [.nilFunc], .func⟩ := ⟨by kernel_rfl, by kernel_rfl, by kernel_rfl, rfl, by kernel_rfl, trivial⟩
theorem ti231 : TIok Try.prog 231 ⟨1, false, 8, [.nilFunc], .func⟩ := ⟨by kernel_rfl, by kernel_rfl, by kernel_rfl, rfl, by kernel_rfl, trivial⟩
theorem ti233 : TIok Try.prog 233 ⟨1, false, 8, [.nilFunc], .func⟩ := ⟨by kernel_rfl, by kernel_rfl, by kernel_rfl, rfl, by kernel_rfl, trivial⟩
theorem ti234 : TIok Try.prog 234 ⟨1, false, 8, [.nilFunc], .func⟩ := ⟨by kernel_rfl, by kernel_rfl, by kernel_rfl, rfl, by kernel_rfl, trivial⟩
theorem ti235 : TIok Try.prog 235 ⟨1, false, 8, [.nilFunc], .func⟩ := ⟨by kernel_rfl, by kernel_rfl, by kernel_rfl, rfl, by kernel_rfl, trivial⟩
theorem ti236 : TIok Try.prog 236 ⟨1, false, 8, [.nilFunc], .func⟩ := ⟨by kernel_rfl, by kernel_rfl, by kernel_rfl, rfl, by kernel_rfl, trivial⟩
theorem ti237 : TIok Try.prog 237 ⟨1, false, 8, [.nilFunc], .func⟩ := ⟨by kernel_rfl, by kernel_rfl, by kernel_rfl, rfl, by kernel_rfl, trivial⟩
theorem ti238 : TIok Try.prog 238 ⟨1, false, 8, [.map none], .map 3 4⟩ := ⟨by kernel_rfl, by kernel_rfl, by kernel_rfl, rfl, by kernel_rfl, by show _ = _; kernel_rfl⟩
theorem ti239 : TIok Try.prog 239 ⟨1, false, 8, [.nilFunc], .func⟩ := ⟨by kernel_rfl, by kernel_rfl, by kernel_rfl, rfl, by kernel_rfl, trivial⟩
theorem ti240 : TIok Try.prog 240 ⟨1, false, 8, [.nilFunc], .func⟩ := ⟨by kernel_rfl, by kernel_rfl, by kernel_rfl, rfl, by kernel_rfl, trivial⟩
theorem ti241 : TIok Try.prog 241 ⟨1, false, 8, [.int .u64 0], .int .u64⟩ := ⟨by kernel_rfl, by kernel_rfl, by kernel_rfl, rfl, by kernel_rfl, by show _ = _; kernel_rfl⟩
theorem ti242 : TIok Try.prog 242 ⟨1, false, 8, [.nilFunc], .func⟩ := ⟨by kernel_rfl, by kernel_rfl, by kernel_rfl, rfl, by kernel_rfl, trivial⟩
theorem ti243 : TIok Try.prog 243 ⟨1, false, 8, [.nilFunc], .func⟩ := ⟨by kernel_rfl, by kernel_rfl, by kernel_rfl, rfl, by kernel_rfl, trivial⟩
theorem ti244 : TIok Try.prog 244 ⟨1, false, 8, [.nilFunc], .func⟩ := ⟨by kernel_rfl, by kernel_rfl, by kernel_rfl, rfl, by kernel_rfl, trivial⟩
theorem ti245 : TIok Try.prog 245 ⟨1, false, 8, [.pointer none], .ptr 3⟩ := ⟨by kernel_rfl, by kernel_rfl, by kernel_rfl, rfl, by kernel_rfl, by show _ = _; kernel_rfl⟩
theorem ti246 : TIok Try.prog 246 ⟨1, false, 8, [.nilFunc], .func⟩ := ⟨by kernel_rfl, by kernel_rfl, by kernel_rfl, rfl, by kernel_rfl, trivial⟩
theorem ti247 : TIok Try.prog 247 ⟨1, false, 8, [.nilFunc], .func⟩ := ⟨by kernel_rfl, by kernel_rfl, by kernel_rfl, rfl, by kernel_rfl, trivial⟩
theorem ti248 : TIok Try.prog 248 ⟨1, false, 8, [.nilFunc], .func⟩ := ⟨by kernel_rfl, by kernel_rfl, by kernel_rfl, rfl, by kernel_rfl, trivial⟩
theorem ti249 : TIok Try.prog 249 ⟨1, false, 8, [.nilFunc], .func⟩ := ⟨by kernel_rfl, by kernel_rfl, by kernel_rfl, rfl, by kernel_rfl, trivial⟩
theorem ti250 : TIok Try.prog 250 ⟨1, false, 8, [.pointer none], .ptr 241⟩ := ⟨by kernel_rfl, by kernel_rfl, by kernel_rfl, rfl, by kernel_rfl, by show _ = _; kernel_rfl⟩
theorem ti252 : TIok Try.prog 252 ⟨1, false, 8, [.nilFunc], .func⟩ := ⟨by kernel_rfl, by kernel_rfl, by kernel_rfl, rfl, by kernel_rfl, trivial⟩
theorem ti253 : TIok Try.prog 253 ⟨1, false, 8, [.nilFunc], .func⟩ := ⟨by kernel_rfl, by kernel_rfl, by kernel_rfl, rfl, by kernel_rfl, trivial⟩
theorem ti254 : TIok Try.prog 254 ⟨1, false, 8, [.nilFunc], .func⟩ := ⟨by kernel_rfl, by kernel_rfl, by kernel_rfl, rfl, by kernel_rfl, trivial⟩
theorem ti255 : TIok Try.prog 255 ⟨1, false, 8, [.int .i64 0], .int .i64⟩ := ⟨by kernel_rfl, by kernel_rfl, by kernel_rfl, rfl, by kernel_rfl, by show _ = _; kernel_rfl⟩
theorem ti257 : TIok Try.prog 257 ⟨1, false, 8, [.nilFunc], .func⟩ := ⟨by kernel_rfl, by kernel_rfl, by kernel_rfl, rfl, by kernel_rfl, trivial⟩
theorem ti258 : TIok Try.prog 258 ⟨1, false, 8, [.nilFunc], .func⟩ := ⟨by kernel_rfl, by kernel_rfl, by kernel_rfl, rfl, by kernel_rfl, trivial⟩
theorem ti259 : TIok Try.prog 259 ⟨1, false, 8, [.nilFunc], .func⟩ := ⟨by kernel_rfl, by kernel_rfl, by kernel_rfl, rfl, by kernel_rfl, trivial⟩
theorem ti260 : TIok Try.prog 260 ⟨1, false, 8, [.nilFunc], .func⟩ := ⟨by kernel_rfl, by kernel_rfl, by kernel_rfl, rfl, by kernel_rfl, trivial⟩
theorem ti261 : TIok Try.prog 261 ⟨1, false, 8, [.int .u64 0], .int .u64⟩ := ⟨by kernel_rfl, by kernel_rfl, by kernel_rfl, rfl, by kernel_rfl, by show _ = _; kernel_rfl⟩
theorem ti262 : TIok Try.prog 262 ⟨1, false, 8, [.nilFunc], .func⟩ := ⟨by kernel_rfl, by kernel_rfl, by kernel_rfl, rfl, by kernel_rfl, trivial⟩
theorem ti263 : TIok Try.prog 263 ⟨1, false, 8, [.nilFunc], .func⟩ := ⟨by kernel_rfl, by kernel_rfl, by kernel_rfl, rfl, by kernel_rfl, trivial⟩
theorem ti264 : TIok Try.prog 264 ⟨1, false, 8, [.pointer none], .ptr 261⟩ := ⟨by kernel_rfl, by kernel_rfl, by kernel_rfl, rfl, by kernel_rfl, by show _ = _; kernel_rfl⟩
theorem ti265 : TIok Try.prog 265 ⟨1, false, 8, [.nilFunc], .func⟩ := ⟨by kernel_rfl, by kernel_rfl, by kernel_rfl, rfl, by kernel_rfl, trivial⟩
theorem ti266 : TIok Try.prog 266 ⟨1, false, 8, [.nilFunc], .func⟩ := ⟨by kernel_rfl, by kernel_rfl, by kernel_rfl, rfl, by kernel_rfl, trivial⟩
theorem ti267 : TIok Try.prog 267 ⟨4, true, 40, [.pointer none, .pointer none, .pointer none, .string ⟨#[]⟩], .strct [(0, 17), (1, 17), (2, 17), (3, 9)]⟩ := ⟨by kernel_rfl, by kernel_rfl, by kernel_rfl, rfl, by kernel_rfl, ⟨by kernel_rfl, by kernel_rfl⟩⟩
theorem ti268 : TIok Try.prog 268 ⟨4, true, 40, [.pointer none, .pointer none, .pointer none, .string ⟨#[]⟩], .strct [(0, 17), (1, 17), (2, 17), (3, 9)]⟩ := ⟨by kernel_rfl, by kernel_rfl, by kernel_rfl, rfl, by kernel_rfl, ⟨by kernel_rfl, by kernel_rfl⟩⟩
theorem ti270 : TIok Try.prog 270 ⟨0, true, 0, [], .strct [(0, 269)]⟩ := ⟨by kernel_rfl, by kernel_rfl, by kernel_rfl, rfl, by kernel_rfl, ⟨by kernel_rfl, by kernel_rfl⟩⟩
theorem ti271 : TIok Try.prog 271 ⟨0, true, 0, [], .strct [(0, 269)]⟩ := ⟨by kernel_rfl, by kernel_rfl, by kernel_rfl, rfl, by kernel_rfl, ⟨by kernel_rfl, by kernel_rfl⟩⟩
theorem ti272 : TIok Try.prog 272 ⟨1, false, 1, [.int .u8 0], .int .u8⟩ := ⟨by kernel_rfl, by kernel_rfl, by kernel_rfl, rfl, by kernel_rfl, by show _ = _; kernel_rfl⟩
theorem ti273 : TIok Try.prog 273 ⟨1, false, 1, [.int .u8 0], .int .u8⟩ := ⟨by kernel_rfl, by kernel_rfl, by kernel_rfl, rfl, by kernel_rfl, by show _ = _; kernel_rfl⟩
theorem ti274 : TIok Try.prog 274 ⟨1, false, 8, [.nilFunc], .func⟩ := ⟨by kernel_rfl, by kernel_rfl, by kernel_rfl, rfl, by kernel_rfl, trivial⟩
theorem ti275 : TIok Try.prog 275 ⟨1, false, 8, [.pointer none], .ptr 5⟩ := ⟨by kernel_rfl, by kernel_rfl, by kernel_rfl, rfl, by kernel_rfl, by show _ = _; kernel_rfl⟩
theorem ti276 : TIok Try.prog 276 ⟨1, false, 4, [.int .i32 0], .int .i32⟩ := ⟨by kernel_rfl, by kernel_rfl, by kernel_rfl, rfl, by kernel_rfl, by show _ = _; kernel_rfl⟩
theorem ti277 : TIok Try.prog 277 ⟨1, false, 4, [.int .i32 0], .int .i32⟩ := ⟨by kernel_rfl, by kernel_rfl, by kernel_rfl, rfl, by kernel_rfl, by show _ = _; kernel_rfl⟩
theorem ti278 : TIok Try.prog 278 ⟨11, true, 48, [.int .u64 0, .int .u64 0, .int .u32 0, .int .u8 0, .int .u8 0, .int .u8 0, .int .u8 0, .nilFunc, .pointer none, .int .i32 0, .int .i32 0], .strct [(0, 12), (1, 12), (2, 224), (3, 272), (4, 5), (5, 5), (6, 273), (7, 274), (8, 275), (9, 276), (10, 277)]⟩ := ⟨by kernel_rfl, by kernel_rfl, by kernel_rfl, rfl, by kernel_rfl, ⟨by kernel_rfl, by kernel_rfl⟩⟩
theorem ti279 : TIok Try.prog 279 ⟨11, true, 48, [.int .u64 0, .int .u64 0, .int .u32 0, .int .u8 0, .int .u8 0, .int .u8 0, .int .u8 0, .nilFunc, .pointer none, .int .i32 0, .int .i32 0], .strct [(0, 12), (1, 12), (2, 224), (3, 272), (4, 5), (5, 5), (6, 273), (7, 274), (8, 275), (9, 276), (10, 277)]⟩ := ⟨by kernel_rfl, by kernel_rfl, by kernel_rfl, rfl, by kernel_rfl, ⟨by kernel_rfl, by kernel_rfl⟩⟩
theorem ti280 : TIok Try.prog 280 ⟨2, true, 24, [.string ⟨#[]⟩, .int .u8 0], .strct [(0, 9), (1, 273)]⟩ := ⟨by kernel_rfl, by kernel_rfl, by kernel_rfl, rfl, by kernel_rfl, ⟨by kernel_rfl, by kernel_rfl⟩⟩
theorem ti281 : TIok Try.prog 281 ⟨2, true, 24, [.string ⟨#[]⟩, .int .u8 0], .strct [(0, 9), (1, 273)]⟩ := ⟨by kernel_rfl, by kernel_rfl, by kernel_rfl, rfl, by kernel_rfl, ⟨by kernel_rfl, by kernel_rfl⟩⟩
set_option maxRecDepth 100000 in
theorem ttok : TTok Try.prog tt := ⟨ti1, ti2, ti3, ti4, ti5, ti6, ti7, ti8, ti9, ti10, ti11, ti12, ti13, ti14, ti15, ti16, ti17, ti18, ti19, ti20, ti21, ti22, ti23, ti24, ti25, ti26, ti27, ti28, ti29, ti30, ti31, ti32, ti33, ti34, ti35, ti36, ti37, ti38, ti39, ti40, ti41, ti42, ti43, ti45, ti46, ti47, ti48, ti49, ti50, ti51, ti52, ti54, ti55, ti56, ti57, ti58, ti59, ti60, ti61, ti62, ti63, ti64, ti65, ti66, ti67, ti68, ti69, ti70, ti71, ti72, ti73, ti74, ti75, ti76, ti77, ti78, ti79, ti80, ti81, ti82, ti83, ti84, ti85, ti86, ti87, ti88, ti89, ti90, ti91, ti92, ti93, ti94, ti95, ti96, ti97, ti98, ti99, ti100, ti101, ti102, ti103, ti104, ti105, ti106, ti107, ti108, ti109, ti111, ti112, ti113, ti114, ti115, ti116, ti117, ti118, ti119, ti120, ti121, ti122, ti123, ti124, ti125, ti126, ti127, ti128, ti129, ti130, ti131, ti132, ti133, ti134, ti135, ti136, ti137, ti138, ti139, ti140, ti141, ti142, ti143, ti144, ti145, ti146, ti147, ti148, ti150, ti151, ti152, ti153, ti154, ti155, ti156, ti157, ti158, ti159, ti160, ti161, ti162, ti163, ti164, ti165, ti166, ti167, ti169, ti170, ti171, ti172, ti173, ti174, ti175, ti176, ti177, ti178, ti179, ti180, ti181, ti182, ti183, ti184, ti185, ti186, ti187, ti188, ti189, ti190, ti191, ti192, ti193, ti194, ti195, ti196, ti197, ti198, ti199, ti200, ti201, ti202, ti203, ti204, ti205, ti206, ti207, ti208, ti209, ti210, ti211, ti212, ti213, ti214, ti215, ti216, ti217, ti218, ti219, ti220, ti221, ti222, ti223, ti224, ti225, ti226, ti227, ti229, ti230, ti231, ti233, ti234, ti235, ti236, ti237, ti238, ti239, ti240, ti241, ti242, ti243, ti244, ti245, ti246, ti247, ti248, ti249, ti250, ti252, ti253, ti254, ti255, ti257, ti258, ti259, ti260, ti261, ti262, ti263, ti264, ti265, ti266, ti267, ti268, ti270, ti271, ti272, ti273, ti274, ti275, ti276, ti277, ti278, ti279, ti280, ti281, trivial⟩
end Go.Vx

/- Contracts: names. -/
namespace Go.Vx
open Go.Proofs Classical
theorem SpecH.mk (os : List Nat) {f : FuncId} {fn : Func} {args : List Value} {μ h0 : Mem} {R : Value → Mem → Mem → Prop} (hf : Try.prog.funcs[f]? = some fn) (hname : (fn.name == "runtime.NumGoroutine") = false) (h : vcFun Try.prog tt os fn args μ h0 R) : SpecH Try.prog f args μ h0 R :=
  SpecH.of (T := Try.checked) os ttok hf hname h
/-- What is owned lies apart from what is frozen. -/
theorem SpecH.mkA (os : List Nat) {f : FuncId} {fn : Func} {args : List Value} {μ h0 : Mem} {R : Value → Mem → Mem → Prop} (hf : Try.prog.funcs[f]? = some fn) (hname : (fn.name == "runtime.NumGoroutine") = false) (hb : fn.body.isSome = true) (h : Apart μ h0 → vcFun Try.prog tt os fn args μ h0 R) : SpecH Try.prog f args μ h0 R :=
  ⟨trivial, fun w h1 h2 h3 => (SpecH.mk os hf hname (h h3)).2 w h1 h2 h3⟩
theorem Spec.mk {f : FuncId} {fn : Func} {args : List Value} {μ : Mem} {R : Value → Mem → Prop} (hf : Try.prog.funcs[f]? = some fn) (hname : (fn.name == "runtime.NumGoroutine") = false) (h : vcFun Try.prog tt [] fn args μ Mem.nil fun v μ' _ => R v μ') : Spec Try.prog f args μ R :=
  SpecH.of (T := Try.checked) [] ttok hf hname h
theorem Spec.mkO (os : List Nat) {f : FuncId} {fn : Func} {args : List Value} {μ : Mem} {R : Value → Mem → Prop} (hf : Try.prog.funcs[f]? = some fn) (hname : (fn.name == "runtime.NumGoroutine") = false) (h : vcFun Try.prog tt os fn args μ Mem.nil fun v μ' _ => R v μ') : Spec Try.prog f args μ R :=
  SpecH.of (T := Try.checked) os ttok hf hname h
theorem wrap64 {n : Int} (h1 : -9223372036854775808 ≤ n) (h2 : n < 9223372036854775808) : IntKind.i64.wrap n = n := by
  have e : IntKind.i64.bits = 64 := rfl
  have e2 : IntKind.i64.signed = true := rfl
  simp only [IntKind.wrap, e, e2, Bool.true_and]
  simp only [show (2 : Int) ^ 64 = 18446744073709551616 from rfl, show (2 : Int) ^ (64 - 1) = 9223372036854775808 from rfl]
  split <;> rename_i h <;> simp at h <;> omega
theorem num64 {n : Int} {K : Int → Prop} (h1 : -9223372036854775808 ≤ n) (h2 : n < 9223372036854775808) (k : K n) : numVC (IntKind.i64.wrap n) K := num_eq (wrap64 h1 h2) k
/-! ### Tests, as they come -/
theorem ifd {p : Prop} [d : Decidable p] {A B : Prop} (h : p → A) (k : ¬ p → B) : ifVC (decide p) A B := if_intro (fun e => h (of_decide_eq_true e)) (fun e => k (of_decide_eq_false e))
theorem ifnd {p : Prop} [d : Decidable p] {A B : Prop} (h : ¬ p → A) (k : p → B) : ifVC (!decide p) A B := if_intro (fun e => h (by simpa using e)) (fun e => k (by simpa using e))
/-- The contract of a function that hands back x and has made no data. -/
abbrev Gives (P : Program) (f : FuncId) (args : List Value) (μ : Mem) (x : Value) : Prop := Spec P f args μ fun v μ' => v = x ∧ μ' = μ
theorem call_gives {dr : Bool} {P : Program} {f : FuncId} {args : List Value} {s : St} {K : Value → St → Prop} {x : Value} (h : Gives P f args s.mem x) (k : K x s) : callVC dr P f args s K :=
  call_plain h fun v μ' _ hR => by
    obtain ⟨rfl, rfl⟩ := hR
    cases s
    exact k
theorem ret_gives {s : St} {v x : Value} {μ : Mem} (h : v = x) (hm : s.mem = μ) : retVC s v fun v μ' _ => v = x ∧ μ' = μ := ret_plain ⟨h, hm⟩
/-! ### Names -/
theorem l01In_spec (n lo hi : Int) (μ : Mem) : Gives Try.prog 98 [.int .i64 n, .int .i64 lo, .int .i64 hi] μ (.bool (decide (lo ≤ n ∧ n ≤ hi))) := by
  refine Spec.mk Try.func98 (by kernel_rfl) ?_
  repeat' (first
    | refine ifd (fun h => ?_) (fun h => ?_)
    | refine ifnd (fun h => ?_) (fun h => ?_)
    | refine if_intro (fun h => ?_) (fun h => ?_)
    | refine num64 ?_ ?_ ?_
    | refine byte_intro _ _ rfl (by assumption) ?_)
  all_goals refine ret_gives ?_ rfl
  · simp_all
  · simp; omega
def NmCh (first : Bool) (b : UInt8) : Prop := (97 ≤ b.toNat ∧ b.toNat ≤ 122) ∨ (first = false ∧ ((48 ≤ b.toNat ∧ b.toNat ≤ 57) ∨ b.toNat = 45))
def IsNm (s : ByteArray) : Prop := 1 ≤ s.size ∧ s.size ≤ 12 ∧ ∀ (i : Nat) b, s.data.toList[i]? = some b → NmCh (i == 0) b
theorem byte_some {s : ByteArray} {i : Nat} (h : i < s.size) : ∃ b, s.data.toList[i]? = some b := ⟨_, List.getElem?_eq_getElem (by simpa using h)⟩
theorem byte_lt {s : ByteArray} {i : Nat} {b : UInt8} (h : s.data.toList[i]? = some b) : i < s.size := by
  have := (List.getElem?_eq_some_iff.1 h).1
  simpa using this
theorem impl_IsName_spec (s : ByteArray) (μ : Mem) : Gives Try.prog 159 [.string s] μ (.bool (decide (IsNm s))) := by
  refine Spec.mk Try.func159 (by kernel_rfl) ?_
  refine ifd (fun h1 => ret_gives ?_ rfl) (fun h1 => ?_)
  · have : ¬ IsNm s := fun h => by have := h.1; omega
    simp [this]
  refine ifd (fun h2 => ret_gives ?_ rfl) (fun h2 => ?_)
  · have : ¬ IsNm s := fun h => by have := h.2.1; omega
    simp [this]
  obtain ⟨b0, hb0⟩ := byte_some (s := s) (i := 0) (by omega)
  have bad : ∀ {i : Nat} {b}, s.data.toList[i]? = some b → ¬ NmCh (i == 0) b → Value.bool false = .bool (decide (IsNm s)) := fun {i b} h k => by
    have : ¬ IsNm s := fun g => k (g.2.2 i b h)
    simp [this]
  refine byte_intro 0 b0 rfl hb0 ?_
  refine ifd (fun h3 => ret_gives (bad hb0 (by simp [NmCh]; omega)) rfl) (fun h3 => ?_)
  refine byte_intro 0 b0 rfl hb0 ?_
  refine ifd (fun h4 => ret_gives (bad hb0 (by simp [NmCh]; omega)) rfl) (fun h4 => ?_)
  refine loop_intro (fun i : Nat => 1 ≤ i ∧ i ≤ s.size ∧ ∀ k b, k < i → s.data.toList[k]? = some b → NmCh (k == 0) b) (fun i => ⟨[(0, .val (.string s)), (3, .val (.int .i64 i))], [], 0, μ, Mem.nil⟩) (fun i => s.size - i)
    1 ⟨by omega, by omega, fun k b hk hb => ?_⟩ (fun i => ⟨rfl, rfl⟩) ⟨⟨rfl, rfl, trivial⟩, trivial, rfl, rfl⟩ ?_
  · have : k = 0 := by omega
    subst this
    rw [hb0] at hb
    cases hb
    exact .inl ⟨by omega, by omega⟩
  rintro i ⟨hi1, hi2, hall⟩
  refine ifd (fun h5 => ?_) (fun h5 => ret_gives ?_ rfl)
  · obtain ⟨b, hb⟩ := byte_some (s := s) (i := i) (by omega)
    have hi0 : (i == 0) = false := by simp; omega
    have next : ((97 ≤ b.toNat ∧ b.toNat ≤ 122) ∨ (48 ≤ b.toNat ∧ b.toNat ≤ 57) ∨ b.toNat = 45) → ∀ k b', k < i + 1 → s.data.toList[k]? = some b' → NmCh (k == 0) b' := fun g k b' hk hb' => by
      by_cases e : k = i
      · subst e; rw [hb] at hb'; cases hb'; rw [hi0]; exact g.imp id fun g => ⟨rfl, g⟩
      · exact hall k b' (by omega) hb'
    have badb : ¬ ((97 ≤ b.toNat ∧ b.toNat ≤ 122) ∨ (48 ≤ b.toNat ∧ b.toNat ≤ 57) ∨ b.toNat = 45) → Value.bool false = .bool (decide (IsNm s)) := fun g => bad hb fun k => by
      rw [hi0] at k
      exact g (k.imp id fun k => k.2)
    repeat' (first
      | refine ifd (fun h => ?_) (fun h => ?_)
      | refine ifnd (fun h => ?_) (fun h => ?_)
      | refine if_intro (fun h => ?_) (fun h => ?_)
      | refine num64 ?_ ?_ ?_
      | refine byte_intro _ _ rfl (by assumption) ?_)
    all_goals first
      | (refine ret_gives (badb ?_) rfl; omega)
      | exact ⟨i + 1, ⟨by omega, by omega, next (by omega)⟩, by omega, ⟨⟨rfl, rfl, trivial⟩, trivial, rfl, rfl⟩⟩
      | omega
  · have : IsNm s := ⟨by omega, by omega, fun k b hb => hall k b (by have := byte_lt hb; omega) hb⟩
    simp [this]
theorem spec_IsName_spec (s : ByteArray) (hs : s.size ≤ maxLen) (μ : Mem) : Gives Try.prog 155 [.string s] μ (.bool (decide (IsNm s))) := by
  have hs : s.size ≤ 9223372036854775807 := Nat.le_trans hs (by decide)
  refine Spec.mk Try.func155 (by kernel_rfl) ?_
  refine loop_intro (fun i : Nat => i ≤ s.size ∧ ∀ k b, k < i → s.data.toList[k]? = some b → NmCh (k == 0) b) (fun i => ⟨[(0, .val (.string s)), (3, .val (.int .i64 i))], [], 0, μ, Mem.nil⟩) (fun i => s.size - i)
    0 ⟨by omega, fun k b hk hb => by omega⟩ (fun i => ⟨rfl, rfl⟩) ⟨⟨rfl, rfl, trivial⟩, trivial, rfl, rfl⟩ ?_
  rintro i ⟨hi2, hall⟩
  refine ifd (fun h5 => ?_) (fun h5 => call_gives (l01In_spec _ _ _ _) (ret_gives ?_ rfl))
  · obtain ⟨b, hb⟩ := byte_some (s := s) (i := i) (by omega)
    have hb8 := b.toNat_lt
    have next : ((97 ≤ b.toNat ∧ b.toNat ≤ 122) ∨ (i ≠ 0 ∧ ((48 ≤ b.toNat ∧ b.toNat ≤ 57) ∨ b.toNat = 45))) → ∀ k b', k < i + 1 → s.data.toList[k]? = some b' → NmCh (k == 0) b' := fun g k b' hk hb' => by
      by_cases e : k = i
      · subst e; rw [hb] at hb'; cases hb'; exact g.imp id fun g => ⟨by simp; exact g.1, g.2⟩
      · exact hall k b' (by omega) hb'
    have badb : ¬ ((97 ≤ b.toNat ∧ b.toNat ≤ 122) ∨ (i ≠ 0 ∧ ((48 ≤ b.toNat ∧ b.toNat ≤ 57) ∨ b.toNat = 45))) → Value.bool false = .bool (decide (IsNm s)) := fun g => by
      have : ¬ IsNm s := fun h => g ((h.2.2 i b hb).imp id fun k => ⟨by have := k.1; simpa using this, k.2⟩)
      simp [this]
    repeat' (first
      | refine call_gives (l01In_spec _ _ _ _) ?_
      | refine ifd (fun h => ?_) (fun h => ?_)
      | refine ifnd (fun h => ?_) (fun h => ?_)
      | refine if_intro (fun h => ?_) (fun h => ?_)
      | refine num64 ?_ ?_ ?_
      | refine byte_intro i b rfl hb ?_)
    all_goals first
      | (refine ret_gives (badb ?_) rfl; omega)
      | exact ⟨i + 1, ⟨by omega, next (by omega)⟩, by omega, ⟨⟨rfl, rfl, trivial⟩, trivial, rfl, rfl⟩⟩
      | omega
  · congr 1
    simp only [decide_eq_decide]
    exact ⟨fun h => ⟨by omega, by omega, fun k b hb => hall k b (by have := byte_lt hb; omega) hb⟩, fun h => by have := h.1; have := h.2.1; omega⟩
theorem at_some {α : Type} {l : List α} {i : Nat} (h : i < l.length) : ∃ a, l[i]? = some a := ⟨_, List.getElem?_eq_getElem h⟩
end Go.Vx

/- The arguments' reading, as data; a law's row out of its contract. -/
namespace Go.Vx
open Go.ChangeShapes Go.WideShapes Go.ChangeAt Go.RowKit
/-- What is read at type t, with fuel up to n, is data that R holds of. -/
def ReadsTo (P : Program) (n : Nat) (t : TypeId) (R : D → Prop) : Prop :=
  ∀ (H : Type) (enc : TypeId × Value → H) (w : World) (spare : Nat → Bool) (held : Bool) (fuel : Nat) (cs : List Value) (x : DataW H × List MemPlace), fuel ≤ n → DataW.trod enc P w 0 spare held fuel t cs = some x → ∃ d, R d ∧ Rep (wmem w) d cs
def Reads (P : Program) (t : TypeId) (R : D → Prop) : Prop := ∀ n, ReadsTo P n t R
def InR (n : Int) : Prop := -9223372036854775808 ≤ n ∧ n ≤ 9223372036854775807
section
variable {P : Program} {t : TypeId}
theorem ReadsTo.weaken {n : Nat} {R R' : D → Prop} (h : ReadsTo P n t R) (k : ∀ d, R d → R' d) : ReadsTo P n t R' := fun H enc w sp hd fuel cs x hf hx => by
  obtain ⟨d, h1, h2⟩ := h H enc w sp hd fuel cs x hf hx
  exact ⟨d, k d h1, h2⟩
theorem ReadsTo.zero (R : D → Prop) : ReadsTo P 0 t R := fun H enc w sp hd fuel cs x hf hx => by
  obtain rfl : fuel = 0 := by omega
  simp [DataW.trod] at hx
theorem reads_int (ht : P.underlying t = some (.int .i64)) : Reads P t fun d => ∃ n, d = .i n ∧ InR n := fun _ H enc w sp hd fuel cs x hf hx => by
  obtain ⟨n, rfl, _, h⟩ := DataW.trod_int ht hx
  refine ⟨.i n, ⟨n, rfl, ?_⟩, rfl⟩
  have h1 : IntKind.i64.min = -9223372036854775808 := by decide
  have h2 : IntKind.i64.max = 9223372036854775807 := by decide
  simp only [Lit.wf, h1, h2, Bool.and_eq_true, decide_eq_true_eq] at h
  unfold InR
  omega
theorem reads_bool (ht : P.underlying t = some .bool) : Reads P t fun d => ∃ b, d = .b b := fun _ H enc w sp hd fuel cs x hf hx => by
  obtain ⟨b, rfl, _⟩ := DataW.trod_bool ht hx
  exact ⟨.b b, ⟨b, rfl⟩, rfl⟩
theorem reads_str (ht : P.underlying t = some .string) : Reads P t fun d => ∃ s, d = .s s ∧ s.size ≤ maxLen := fun _ H enc w sp hd fuel cs x hf hx => by
  obtain ⟨s, rfl, _, h⟩ := DataW.trod_string ht hx
  exact ⟨.s s, ⟨s, rfl, h⟩, rfl⟩
/-- Data, each as its own predicate says. -/
def AllR : List (D → Prop) → List D → Prop
  | [], [] => True
  | R :: Rs, d :: ds => R d ∧ AllR Rs ds
  | _, _ => False
theorem AllR.cons {R : D → Prop} {Rs : List (D → Prop)} {ds : List D} (h : AllR (R :: Rs) ds) : ∃ d ds', ds = d :: ds' ∧ R d ∧ AllR Rs ds' := by
  cases ds with
  | nil => exact h.elim
  | cons d ds => exact ⟨d, ds, rfl, h.1, h.2⟩
theorem AllR.nil {ds : List D} (h : AllR [] ds) : ds = [] := by
  cases ds with
  | nil => rfl
  | cons d ds => exact h.elim
def FieldsTo (P : Program) (n : Nat) : Nat → List (Nat × TypeId) → List (D → Prop) → Nat → Prop
  | o, [], [], e => o = e
  | o, (off, ft) :: fs, R :: Rs, e => off = o ∧ ReadsTo P n ft R ∧ FieldsTo P n (o + P.cellsOf ft) fs Rs e
  | _, _, _, _ => False
theorem FieldsTo.nil {n o : Nat} : FieldsTo P n o [] [] o := rfl
theorem FieldsTo.cons {n o e ft : Nat} {i : TI} {R : D → Prop} {fs : List (Nat × TypeId)} {Rs : List (D → Prop)} (hi : TIok P ft i) (h : ReadsTo P n ft R) (r : FieldsTo P n (o + i.size) fs Rs e) : FieldsTo P n o ((o, ft) :: fs) (R :: Rs) e := by
  refine ⟨rfl, h, ?_⟩
  obtain ⟨inf, hin, hs, _⟩ := hi.info'
  have : P.cellsOf ft = i.size := by simp [Program.cellsOf, hin, hs]
  rw [this]
  exact r
theorem reads_fields {n e : Nat} {H : Type} {enc : TypeId × Value → H} {w : World} {sp : Nat → Bool} {hd : Bool} {m : Nat} (hm : m ≤ n) {cs : List Value} (hl : cs.length = e) : ∀ (fs : List (Nat × TypeId)) (Rs : List (D → Prop)) (o : Nat), FieldsTo P n o fs Rs e →
    (∀ f ∈ fs, ∃ x, DataW.trod enc P w 0 sp hd m f.2 ((cs.drop f.1).take (P.cellsOf f.2)) = some x) → ∃ ds, AllR Rs ds ∧ RepS (wmem w) ds (cs.drop o)
  | [], [], o, h, _ => by
    have : o = e := h
    exact ⟨[], trivial, by simp [RepS]; omega⟩
  | (off, ft) :: fs, R :: Rs, o, h, hx => by
    obtain ⟨rfl, h1, h2⟩ := h
    obtain ⟨x, hx0⟩ := hx (off, ft) (by simp)
    obtain ⟨d, g1, g2⟩ := h1 H enc w sp hd m _ x hm hx0
    obtain ⟨ds, g3, g4⟩ := reads_fields hm hl fs Rs _ h2 fun f hf => hx f (by simp [hf])
    refine ⟨d :: ds, ⟨g1, g3⟩, _, _, ?_, g2, g4⟩
    rw [← List.drop_drop, List.take_append_drop]
  | [], _ :: _, _, h, _ => h.elim
  | _ :: _, [], _, h, _ => h.elim
theorem reads_struct {i : TI} {fs : List (Nat × TypeId)} {Rs : List (D → Prop)} {n : Nat} (hi : TIok P t i) (hk : i.kind = .strct fs) (hf : FieldsTo P n 0 fs Rs i.size) : ReadsTo P (n + 1) t fun d => ∃ ds, d = .st ds ∧ AllR Rs ds := fun H enc w sp hd fuel cs x hfu hx => by
  have h := hi.kind
  rw [hk] at h
  obtain ⟨h, _⟩ := h
  cases hu : P.underlying t with
  | none => simp [hu] at h
  | some desc =>
    simp only [hu, Option.bind_some] at h
    cases desc <;> simp only [fieldsD] at h <;> try (cases h; done)
    rename_i F
    simp only [Option.some.injEq] at h
    obtain ⟨xs, m, rfl, _, hcs, hxs, hall⟩ := DataW.trod_struct hu hx
    have hsz : P.cellsOf t = i.size := by
      obtain ⟨inf, hin, hs, _⟩ := hi.info'
      simp [Program.cellsOf, hin, hs]
    obtain ⟨ds, g1, g2⟩ := reads_fields (w := w) (enc := enc) (sp := sp) (hd := hd) (m := m) (by omega) (hcs.trans hsz) fs Rs 0 hf fun f hfm => by
      rw [← h] at hfm
      obtain ⟨fd, hfd, rfl⟩ := List.mem_map.1 hfm
      obtain ⟨j, hj⟩ := List.mem_iff_getElem?.1 hfd
      have hj' : F[j]? = some fd := by simpa using hj
      have hlt : j < F.size := (Array.getElem?_eq_some_iff.1 hj').1
      exact ⟨xs[j]'(by omega), by rw [hall j fd hj', List.getElem?_eq_getElem (by omega)]⟩
    exact ⟨.st ds, ⟨ds, rfl, g1⟩, by simpa [Rep] using g2⟩
theorem RepS.flat {μ : Mem} {es : Nat} : ∀ {xs : List D} {cells : Nat → List Value}, (∀ i x, xs[i]? = some x → Rep μ x (cells i)) → RepS μ xs ((List.range xs.length).flatMap cells)
  | [], _, _ => rfl
  | d :: r, cells, h => by
    have ih := RepS.flat (es := es) (μ := μ) (xs := r) (cells := fun i => cells (i + 1)) fun i x hx => h (i + 1) x (by simpa using hx)
    refine ⟨cells 0, (List.range r.length).flatMap fun i => cells (i + 1), ?_, h 0 d (by simp), ih⟩
    rw [List.length_cons, List.range_succ_eq_map, List.flatMap_cons, List.flatMap_map]
theorem reads_slice {e : TypeId} {es n : Nat} {R : D → Prop} (ht : P.underlying t = some (.slice e)) (hc : P.cellsOf e = es) (h : ReadsTo P n e R) (hn : ∀ d, R d → d.n = es) : ReadsTo P (n + 1) t fun d => ∃ xs, d = .sl es xs ∧ ∀ x ∈ xs, R x := fun H enc w sp hd fuel cs x hf hx => by
  rcases DataW.trod_slice ht hx with ⟨rfl, _⟩ | ⟨a, len, cap, elems, rest, m, rfl, rfl, _, _, h1, h2, h3, h4, _⟩
  · exact ⟨.sl es [], ⟨[], rfl, by simp⟩, Rep.nilSl es⟩
  · subst hc
    obtain ⟨xs, g1, g2⟩ := exists_list (Pr := fun i (y : D) => ∃ cs', w.cells? 0 (a.add (i * P.cellsOf e)) (P.cellsOf e) = some cs' ∧ R y ∧ Rep (wmem w) y cs') len fun i hi => by
      have := h4 i hi
      rw [List.getElem?_eq_getElem (by omega)] at this
      obtain ⟨cs', k1, k2⟩ := Option.bind_eq_some_iff.1 this
      obtain ⟨y, hy, hy'⟩ := h H enc w sp hd m cs' _ (by omega) k2
      exact ⟨y, cs', k1, hy, hy'⟩
    have hR : ∀ y ∈ xs, R y := fun y hy => by
      obtain ⟨j, hj⟩ := List.mem_iff_getElem?.1 hy
      obtain ⟨_, _, hr, _⟩ := g2 j y hj
      exact hr
    let cells : Nat → List Value := fun i => (w.cells? 0 (a.add (i * P.cellsOf e)) (P.cellsOf e)).getD []
    have hcell : ∀ i y, xs[i]? = some y → Rep (wmem w) y (cells i) := fun i y hy => by
      obtain ⟨cs', k1, _, k3⟩ := g2 i y hy
      simp only [cells, k1, Option.getD_some]; exact k3
    refine ⟨.sl _ xs, ⟨xs, rfl, hR⟩, some a, cap, by rw [g1], ⟨by omega, by omega⟩, fun y hy => hn y (hR y hy), .inr ⟨a, (List.range xs.length).flatMap cells, rfl, ?_, RepS.flat (es := P.cellsOf e) hcell⟩⟩
    intro j v hj
    have hlen : ∀ y ∈ (List.range xs.length).map fun i => Value.agg (cells i).toArray, (vcells y).length = P.cellsOf e := fun y hy => by
      obtain ⟨i, hi, rfl⟩ := List.mem_map.1 hy
      obtain ⟨z, hz⟩ : ∃ z, xs[i]? = some z := ⟨_, List.getElem?_eq_getElem (by simpa using hi)⟩
      obtain ⟨cs', k1, _, _⟩ := g2 i z hz
      simp only [vcells, cells, k1, Option.getD_some]
      exact (cells?_at k1).1
    have hfl : (List.range xs.length).flatMap cells = ((List.range xs.length).map fun i => Value.agg (cells i).toArray).flatMap vcells := by
      rw [List.flatMap_map]; rfl
    have htot : ((List.range xs.length).flatMap cells).length = xs.length * P.cellsOf e := by
      rw [hfl, flat_len _ hlen]; simp
    have hjlt := (List.getElem?_eq_some_iff.1 hj).1
    rw [htot] at hjlt
    have hpos : 0 < P.cellsOf e := by
      rcases Nat.eq_zero_or_pos (P.cellsOf e) with h | h
      · rw [h] at hjlt; simp at hjlt
      · exact h
    let i := j / P.cellsOf e
    let k := j % P.cellsOf e
    have hjk : j = i * P.cellsOf e + k := by simp only [i, k]; rw [Nat.mul_comm]; exact (Nat.div_add_mod _ _).symm
    have hi : i < xs.length := Nat.div_lt_of_lt_mul (by rw [Nat.mul_comm]; exact hjlt)
    have hk : k < P.cellsOf e := Nat.mod_lt _ hpos
    obtain ⟨z, hz⟩ : ∃ z, xs[i]? = some z := ⟨_, List.getElem?_eq_getElem hi⟩
    obtain ⟨cs', k1, _, _⟩ := g2 i z hz
    obtain ⟨k3, k4⟩ := cells?_at k1
    obtain ⟨u, hu⟩ : ∃ u, cs'[k]? = some u := ⟨_, List.getElem?_eq_getElem (by omega)⟩
    have hf := flat_at hlen (i := i) (y := .agg (cells i).toArray) (by simp [hi]) (j := k) (v := u) (by simp only [vcells, cells, k1, Option.getD_some]; exact hu)
    rw [← hfl, ← hjk, hj] at hf
    cases hf
    rw [hjk, ← add_add]
    exact k4 k v hu
theorem reads_sl {e : TypeId} {es : Nat} {R : D → Prop} (ht : P.underlying t = some (.slice e)) (hc : P.cellsOf e = es) (hn : ∀ d, R d → d.n = es) (h : Reads P e R) : Reads P t fun d => ∃ xs, d = .sl es xs ∧ ∀ x ∈ xs, R x
  | 0 => ReadsTo.zero _
  | n + 1 => reads_slice ht hc (h n) hn
/-- What the reading of an argument that is a struct gives. -/
theorem read_struct {H : Type} {enc : TypeId × Value → H} {w : World} {sp : Nat → Bool} {hd : Bool} {b : Nat} {fs : Array Go.Field} {v : Value} {x : DataW H} {p : List MemPlace} {R : D → Prop} (ht : P.underlying t = some (.struct fs)) (hr : Reads P t R)
    (hv : Value.okWide P w .any b t v) (h : DataW.Trod enc P w 0 sp hd t v x p) : ∃ d, R d ∧ ∃ cs, v = .agg (List.toArray cs) ∧ Rep (wmem w) d cs := by
  obtain ⟨cs, rfl, _⟩ := okWide_struct ht hv
  obtain ⟨fuel, h⟩ := h
  obtain ⟨d, h1, h2⟩ := hr fuel H enc w sp hd fuel _ _ (Nat.le_refl _) h
  exact ⟨d, h1, cs.toList, by simp, h2⟩
/-- What the reading of an argument that is no struct gives. -/
theorem read_cell {H : Type} {enc : TypeId × Value → H} {w : World} {sp : Nat → Bool} {hd : Bool} {b : Nat} {v : Value} {x : DataW H} {p : List MemPlace} {R : D → Prop} (ha : ∀ cs, ¬ Value.okWide P w .any b t (.agg cs)) (hr : Reads P t R)
    (hv : Value.okWide P w .any b t v) (h : DataW.Trod enc P w 0 sp hd t v x p) : ∃ d, R d ∧ Rep (wmem w) d [v] := by
  obtain ⟨fuel, h⟩ := h
  obtain ⟨d, h1, h2⟩ := hr fuel H enc w sp hd fuel _ _ (Nat.le_refl _) h
  refine ⟨d, h1, ?_⟩
  cases v with
  | agg cs => exact absurd hv (ha cs)
  | _ => exact h2
theorem okWide_slice {w : World} {b : Nat} {e : TypeId} (ht : P.underlying t = some (.slice e)) (cs : Array Value) : ¬ Value.okWide P w .any b t (.agg cs) := fun h => by
  simp [Value.okWide, ht, Cell.okWide, Cell.ok] at h
theorem okWide_int {w : World} {b : Nat} {k : IntKind} (ht : P.underlying t = some (.int k)) (cs : Array Value) : ¬ Value.okWide P w .any b t (.agg cs) := fun h => by
  simp [Value.okWide, ht, Cell.okWide, Cell.ok] at h
theorem okWide_string {w : World} {b : Nat} (ht : P.underlying t = some .string) (cs : Array Value) : ¬ Value.okWide P w .any b t (.agg cs) := fun h => by
  simp [Value.okWide, ht, Cell.okWide, Cell.ok] at h
theorem okWide_bool {w : World} {b : Nat} (ht : P.underlying t = some .bool) (cs : Array Value) : ¬ Value.okWide P w .any b t (.agg cs) := fun h => by
  simp [Value.okWide, ht, Cell.okWide, Cell.ok] at h
end
/-! ### The row -/
theorem trodAll_stays {H : Type} {enc : TypeId × Value → H} {P : Program} (hl : laidOutB P = true) {W W' : World} (hb : Below W.heap.size W W') {sp : Nat → Bool} : ∀ {ts : List TypeId} {vs : List Value} {ds : List (DataW H)} {ps : List MemPlace},
    (∀ t ∈ ts, P.readableRec t = true ∧ t < P.types.size) → DataW.TrodAll enc P W 0 (fun _ => true) true ts vs ds ps → (∀ x ∈ ps, x.block < W.heap.size) → (∀ x ∈ ps, sp x.block = true) → DataW.TrodAll enc P W' 0 sp true ts vs ds ps
  | [], vs, ds, ps, _, h, _, _ => by
    obtain ⟨rfl, rfl, rfl⟩ := trodAll_nil h
    exact trodAll_mk0
  | t :: ts, vs, ds, ps, hr, h, hlt, hs => by
    obtain ⟨v, vs', d, ds', p, q, rfl, rfl, rfl, h1, h2⟩ := trodAll_cons h
    obtain ⟨g1, g2⟩ := hr t (by simp)
    exact trodAll_cons_mk (WideElems.Trod_stays hl g1 g2 h1 (fun x hx => hb.same (hlt x (by simp [hx]))) (fun x hx => hs x (by simp [hx])))
      (trodAll_stays hl hb (fun t ht => hr t (by simp [ht])) h2 (fun x hx => hlt x (by simp [hx])) (fun x hx => hs x (by simp [hx])))
/-- 'post' of a law: true came back, and what was there when the call began is as it was. -/
theorem law_post {H : Type} {enc : TypeId × Value → H} {P : Program} {f : Func} {s : ChangeSpec} {apart fresh handsOn again : Bool} {W W' : World} {args : Array Value} {ds gs : List (DataW H)} {before : List MemPlace} {tb : TypeId}
    (hl : laidOutB P = true) (hr : ∀ t ∈ f.params.toList, P.readableRec t = true ∧ t < P.types.size) (hres : f.resultTypes = #[tb]) (htb : P.underlying tb = some .bool) (hs : s.vars = [])
    (hfn : s.fn H ds = { results := [.lit (.bool true)], args := ds })
    (hW : DataW.Whole enc P f.params.toList s.vars apart W args.toList ds gs before) (hb : Below W.heap.size W W') : s.post enc P f apart fresh handsOn again W args (.bool true) W' := by
  have hW0 := hW
  obtain ⟨p, q, hA, hV, rfl, hz, hn⟩ := hW
  rw [hs] at hV
  obtain ⟨rfl, rfl⟩ := trodVars_none hV
  have hlt : ∀ x ∈ p, x.block < W.heap.size := fun x hx => hW0.lt x (by simp [hx])
  have hfn' : s.fn H (ds ++ []) = { results := [.lit (.bool true)], args := ds } := by simpa using hfn
  have hrl : (Value.bool true).resultList f.resultTypes.size = [.bool true] := by rw [hres]; rfl
  have hbool : ∀ (b : Nat) (sp : Nat → Bool) (hd : Bool), DataW.TrodAll enc P W' b sp hd f.resultTypes.toList ((Value.bool true).resultList f.resultTypes.size) [.lit (.bool true)] [] := fun b sp hd => by
    rw [hrl, hres]
    exact trodAll_mk1 (shut_bool htb true)
  refine ⟨ds, [], p ++ [], [], p, [], hW0, by rw [hfn']; exact hbool _ _ _, by rw [hfn']; exact trodAll_stays hl hb hr hA hlt (fun x hx => by simpa using hlt x hx), by rw [hfn', hs]; rfl, hb.frame _, fun _ => ⟨fun j t r hj hr' => ?_, .lit (.bool true) :: ds, [], p, ⟨p, [], ?_, by rw [hs]; rfl, by simp, fun b off hp => ?_, fun ha => ?_⟩, fun x hx _ => by simpa using hx⟩⟩
  · rw [hres] at hj
    rw [hrl] at hr'
    match j, hj, hr' with
    | 0, hj, hr' =>
      simp at hj hr'
      subst hj; subst hr'
      exact okWide_bool_mk htb true
  · exact trodAll_append (trodAll_stays (sp := fun _ => true) hl hb hr hA hlt fun _ _ => rfl) (hbool _ _ _)
  · rw [hb.frozen (p := ⟨b, off, none⟩) (hlt _ hp)]
    exact hz b off (by simpa using hp)
  · have := hn ha
    simpa using this
theorem step_below {μ' h' : Mem} {w w' : World} {μ : Mem} (h : Step μ Mem.nil w μ' h' w') : Below w.heap.size w w' := ⟨h.os, h.tape, h.output, h.size, fun k hk => h.keep k hk rfl⟩
theorem Ans.calls {P : Program} {f : FuncId} {args : Array Value} {w : World} {Q : Ending → World → Prop} (h : Ans P f args w Q) (he : Enter P f) : Calls P f args w Q := by
  rcases h with h | ⟨v, w', h1, _⟩
  · exact h.2
  · obtain ⟨fn, hf, hb, hn⟩ := he
    have hb : fn.body ≠ none := by cases hb : fn.body <;> simp_all
    have hn : fn.name ≠ "runtime.NumGoroutine" := by simpa using hn
    simp [callFunc, hf, hn, hb] at h1
/-- **A LAW'S CALL, OUT OF ITS CONTRACT.** -/
theorem law_calls {H : Type} {enc : TypeId × Value → H} {P : Program} {f : FuncId} {fn : Func} {s : ChangeSpec} {apart fresh handsOn again : Bool} {W : World} {args : Array Value} {ds gs : List (DataW H)} {before : List MemPlace} {tb : TypeId}
    (hl : laidOutB P = true) (hr : ∀ t ∈ fn.params.toList, P.readableRec t = true ∧ t < P.types.size) (hres : fn.resultTypes = #[tb]) (htb : P.underlying tb = some .bool) (hs : s.vars = [])
    (hfn : s.fn H ds = { results := [.lit (.bool true)], args := ds })
    (hW : DataW.Whole enc P fn.params.toList s.vars apart W args.toList ds gs before) (hent : Enter P f) (h : Spec P f args.toList (wmem W) fun r _ => r = .bool true) :
    Calls P f args W fun e W' => ∃ v, e = .returned v ∧ s.post enc P fn apart fresh handsOn again W args v W' := by
  have := h.2 W (wmem_holds W) (holds_nil W) (apart_nil _)
  simp only [Array.toArray_toList] at this
  refine (this.calls hent).mono ?_
  rintro e W' ⟨v, μ', h', rfl, rfl, hS⟩
  exact ⟨_, rfl, law_post hl hr hres htb hs hfn hW (step_below hS)⟩
end Go.Vx

/- What a law owns; its calls. -/
namespace Go.Vx
section
variable {P : Program} {f : FuncId} {args : List Value} {μ H : Mem}
theorem apart_join {g k : Mem} (h1 : Apart μ g) (h2 : Apart μ k) : Apart μ (g.join k) := fun b hb => by rw [Mem.join_get, h1 b hb]; exact h2 b hb
/-- A call that reads owned memory and makes new memory, some of which is owned from then on. -/
theorem Spec.lendOwn {R : Value → Mem → Prop} {R' : Value → Mem → Mem → Prop} (ha : Apart μ H) (h : Spec P f args (μ.join H) R) (G : ∀ v μ1, (μ.join H).Le μ1 → R v μ1 → ∃ g : Mem, g.Le μ1 ∧ (∀ b, g b ≠ none → (μ.join H) b = none) ∧ R' v g μ1) :
    SpecH P f args μ H fun v μ2 H2 => ∃ g μ1, R' v g μ1 ∧ (μ.join H).Le μ1 ∧ Parts H2 H g ∧ μ2 = (μ1.sub H).sub g := by
  refine ⟨h.1, fun w hm hH _ => (h.2 w (hm.join hH) (holds_nil w) (apart_nil _)).mono ?_⟩
  rintro e w' ⟨v, μ1, h1, rfl, hr, hS⟩
  obtain ⟨g, hg, hf, hr'⟩ := G v μ1 hS.le hr
  have hgH : Apart H g := fun b hb => by
    cases h2 : g b with
    | none => rfl
    | some o =>
      have := hf b (by simp [h2])
      cases h3 : H b with
      | none => exact absurd h3 hb
      | some o' => rw [Mem.le_join_right ha b o' h3] at this; cases this
  have hgμ : Apart μ g := fun b hb => by
    cases h2 : g b with
    | none => rfl
    | some o =>
      have := hf b (by simp [h2])
      cases h3 : μ b with
      | none => exact absurd h3 hb
      | some o' => rw [Mem.le_join μ H b o' h3] at this; cases this
  refine ⟨v, (μ1.sub H).sub g, H.join g, rfl, ⟨g, μ1, hr', hS.le, Parts.join hgH, rfl⟩, ⟨Mem.le_sub (Mem.le_sub ((Mem.le_join μ H).trans hS.le) ha) hgμ, hS.mem.le ((Mem.sub_le _ _).trans (Mem.sub_le _ _)), (hS.mem.le ((Mem.le_join_right ha).trans hS.le)).join (hS.mem.le hg), fun b hb => ?_, fun b hb hb' => ?_, fun b hb => ?_, hS.size, fun b hb _ => hS.keep b hb rfl, hS.os, hS.tape, hS.output⟩⟩
  · have k1 := Mem.sub_none hb
    rw [Mem.sub_of k1] at hb
    rw [Mem.join_get, Mem.sub_none hb]; exact k1
  · have k1 := Mem.sub_none hb'
    rw [Mem.sub_of k1] at hb'
    have k2 := Mem.sub_none hb'
    rw [Mem.sub_of k2] at hb'
    refine .inl ((hS.fresh b ?_ hb').resolve_right fun h => h rfl)
    rw [Mem.join_get, hb]; exact k2
  · rcases join_ne hb with h2 | h2
    · exact .inr h2
    · refine .inl ((hS.fresh b (hf b h2) ?_).resolve_right fun h => h rfl)
      cases h3 : g b with
      | none => exact absurd h3 h2
      | some o => rw [hg b o h3]; simp
/-- A call that has nothing to do with what is owned. -/
theorem Spec.beside {R : Value → Mem → Prop} (ha : Apart μ H) (h : Spec P f args μ R) : SpecH P f args μ H fun v μ' H' => H' = H ∧ R v μ' := by
  refine ⟨h.1, fun w hm hH _ => (h.2 w hm (holds_nil w) (apart_nil _)).mono ?_⟩
  rintro e w' ⟨v, μ', h', rfl, hr, hS⟩
  refine ⟨v, μ', H, rfl, ⟨rfl, hr⟩, ⟨hS.le, hS.mem, fun b o hb => by rw [hS.keep b (hH.lt (by simp [hb])) rfl]; exact hH b o hb, fun b hb => ?_, fun b hb hb' => .inl ((hS.fresh b hb hb').resolve_right fun h => h rfl), fun b hb => .inr hb, hS.size, fun b hb _ => hS.keep b hb rfl, hS.os, hS.tape, hS.output⟩⟩
  by_cases hm0 : μ b = none
  · have := (hS.fresh b hm0 hb).resolve_right fun h => h rfl
    cases h1 : H b with
    | none => rfl
    | some o => have := hH.lt (b := b) (by simp [h1]); omega
  · exact ha b hm0
/-- Data that are owned, each with memory of its own. -/
def Owns : Mem → List (D × Value) → Prop
  | H, [] => H = Mem.nil
  | H, (d, v) :: l => ∃ h k, Parts H h k ∧ OwnV d h v ∧ Owns k l
theorem Owns.snoc : ∀ {l : List (D × Value)} {H g H' : Mem} {d : D} {v : Value}, Owns H l → OwnV d g v → Parts H' H g → Owns H' (l ++ [(d, v)])
  | [], H, g, H', d, v, h, k, p => by
    subst h
    exact ⟨g, Mem.nil, p.symm, k, rfl⟩
  | (e, u) :: l, H, g, H', d, v, h, k, p => by
    obtain ⟨h1, h2, q, k1, k2⟩ := h
    obtain ⟨m, q1, q2⟩ := p.symm.assoc q.symm
    exact ⟨h1, m, q2.symm, k1, Owns.snoc k2 k q1.symm⟩
theorem Owns.focus : ∀ {l1 l2 : List (D × Value)} {H : Mem} {d : D} {v : Value}, Owns H (l1 ++ (d, v) :: l2) →
    ∃ h k, Parts H h k ∧ OwnV d h v ∧ ∀ H' h' d', Parts H' h' k → OwnV d' h' v → Owns H' (l1 ++ (d', v) :: l2)
  | [], l2, H, d, v, h => by
    obtain ⟨h1, h2, q, k1, k2⟩ := h
    exact ⟨h1, h2, q, k1, fun H' h' d' p k => ⟨h', h2, p, k, k2⟩⟩
  | (e, u) :: l1, l2, H, d, v, h => by
    obtain ⟨h1, h2, q, k1, k2⟩ := h
    obtain ⟨h3, h4, q3, k3, back⟩ := Owns.focus k2
    obtain ⟨m, q1, q2⟩ := q.assoc q3.symm
    refine ⟨h3, m, q2.symm, k3, fun H' h' d' p k => ?_⟩
    obtain ⟨m2, q4, q5⟩ := p.assoc q1.symm
    exact ⟨h1, m2, q5.symm, k1, back m2 h' d' q4 k⟩
theorem Owns.rep {μ : Mem} {H : Mem} (ha : Apart μ H) {l1 l2 : List (D × Value)} {d : D} {v : Value} (h : Owns H (l1 ++ (d, v) :: l2)) : RepV (μ.join H) d v := by
  obtain ⟨h1, k, p, o, _⟩ := h.focus
  exact o.rep (p.left.trans (Mem.le_join_right ha))
/-! ### The calls of a law -/
variable {dr : Bool} {s : St} {K : Value → St → Prop}
/-- Nothing is owned yet: that is fitting. -/
theorem Owns.none : Owns Mem.nil [] := rfl
/-- A call that makes data of its own; its result is wrapped by T. -/
theorem call_new {l : List (D × Value)} {d : D} (T : Value → Value) (hap : Apart s.mem s.own) (ho : Owns s.own l) (h : Spec P f args (s.mem.join s.own) fun v μ' => ∃ gv, v = T gv ∧ Fresh (s.mem.join s.own) μ' d gv)
    (k : ∀ gv μ' H', s.mem.Le μ' → Apart μ' H' → Owns H' (l ++ [(d, gv)]) → memOwnK s μ' H' fun s => K (T gv) s) : callVC dr P f args s K := by
  refine call_own (Spec.lendOwn (R' := fun v g μ1 => ∃ gv, v = T gv ∧ OwnV d g gv) hap h fun v μ1 hle hR => ?_) fun v μ' H' hle ha' hR => ?_
  · obtain ⟨gv, e, g, h1, h2, h3⟩ := hR
    exact ⟨g, h2, h3, gv, e, h1⟩
  · obtain ⟨g, μ1, ⟨gv, rfl, h1⟩, _, hp, _⟩ := hR
    exact k gv μ' H' hle ha' (ho.snoc h1 hp)
/-- A call that only reads, owned data too. -/
theorem call_read {x : Value} (hap : Apart s.mem s.own) (h : Spec P f args (s.mem.join s.own) fun v μ' => v = x ∧ μ' = s.mem.join s.own) (k : K x s) : callVC dr P f args s K :=
  call_own (SpecH.lendGives hap h) fun v μ' H' _ _ ⟨h1, h2, h3⟩ => by
    subst h1 h2 h3
    cases s
    exact k
/-- A call that has nothing to do with what is owned. -/
theorem call_data {R : Value → Mem → Prop} (hap : Apart s.mem s.own) (h : Spec P f args s.mem R) (k : ∀ v μ', s.mem.Le μ' → Apart μ' s.own → R v μ' → memOwnK s μ' s.own fun s => K v s) : callVC dr P f args s K :=
  call_own (Spec.beside hap h) fun v μ' H' hle ha' ⟨h1, h2⟩ => by
    subst h1
    exact k v μ' hle ha' h2
/-- A call that marks owned data. -/
theorem call_mark {l1 l2 : List (D × Value)} {d d' : D} {u : Value} {x : Value} (hap : Apart s.mem s.own) (ho : Owns s.own (l1 ++ (d, u) :: l2)) (h : ∀ hx, OwnV d hx u → SpecH P f args s.mem hx fun r μ' h' => r = x ∧ μ' = s.mem ∧ OwnV d' h' u)
    (k : ∀ H', Apart s.mem H' → Owns H' (l1 ++ (d', u) :: l2) → memOwnK s s.mem H' fun s => K x s) : callVC dr P f args s K := by
  obtain ⟨h1, k1, p, o, back⟩ := ho.focus
  refine call_own (SpecH.frame p (h h1 o)) fun v μ' H' hle ha' ⟨h', ⟨e1, e2, o'⟩, p'⟩ => ?_
  subst e1 e2
  exact k H' ha' (back H' h' d' p' o')
end
end Go.Vx

/- Sizes and widths of data; what is asked of the elements of slices. -/
namespace Go.Vx
mutual
/-- What a law's budget takes off for data: the bytes of strings, the elements of slices. -/
def D.sz : D → Nat
  | .i _ => 0
  | .b _ => 0
  | .s x => x.size
  | .st fs => D.szs fs
  | .sl _ xs => xs.length + D.szs xs
def D.szs : List D → Nat
  | [] => 0
  | d :: r => d.sz + D.szs r
end
mutual
/-- All strings are as short as the machine has them. -/
def D.wd : D → Prop
  | .i n => InR n
  | .b _ => True
  | .s x => x.size ≤ maxLen
  | .st fs => D.wds fs
  | .sl _ xs => D.wds xs
def D.wds : List D → Prop
  | [] => True
  | d :: r => d.wd ∧ D.wds r
end
theorem D.szs_append : ∀ (a c : List D), D.szs (a ++ c) = D.szs a + D.szs c
  | [], c => by simp [D.szs]
  | d :: r, c => by simp [D.szs, D.szs_append r c, Nat.add_assoc]
theorem D.szs_take {xs : List D} {j : Nat} {x : D} (h : xs[j]? = some x) : D.szs (xs.take (j + 1)) = D.szs (xs.take j) + x.sz := by
  rw [List.take_add_one, h, Option.toList_some, D.szs_append]; simp [D.szs]
theorem D.szs_le (xs : List D) (j : Nat) : D.szs (xs.take j) ≤ D.szs xs := by
  have := D.szs_append (xs.take j) (xs.drop j)
  rw [List.take_append_drop] at this; omega
theorem D.szs_one {xs : List D} {j : Nat} {x : D} (h : xs[j]? = some x) : D.szs (xs.take j) + x.sz ≤ D.szs xs := by
  rw [← D.szs_take h]; exact D.szs_le _ _
theorem D.szs_mem {xs : List D} {j : Nat} {x : D} (h : xs[j]? = some x) : x.sz ≤ D.szs xs := by
  have := D.szs_one h; omega
theorem D.wds_mem : ∀ {xs : List D}, D.wds xs → ∀ x ∈ xs, x.wd
  | [], _, x, h => by cases h
  | d :: r, k, x, h => by
    rcases List.mem_cons.1 h with rfl | h
    · exact k.1
    · exact D.wds_mem k.2 x h
theorem D.wds_of : ∀ {xs : List D}, (∀ x ∈ xs, x.wd) → D.wds xs
  | [], _ => trivial
  | d :: r, k => ⟨k d (by simp), D.wds_of fun x h => k x (by simp [h])⟩
theorem at_map {α : Type} {f : α → D} {l : List α} {j : Nat} {a : α} (h : l[j]? = some a) : (l.map f)[j]? = some (f a) := by simp [h]
theorem mem_at {α : Type} {l : List α} {j : Nat} {a : α} (h : l[j]? = some a) : a ∈ l := by
  obtain ⟨h1, h2⟩ := List.getElem?_eq_some_iff.1 h
  rw [← h2]; exact List.getElem_mem h1
theorem maxLen_le {n : Nat} (h : n ≤ maxLen) : (n : Int) ≤ 9223372036854775807 := by
  have := Nat.le_trans h (show maxLen ≤ 9223372036854775807 by decide); omega
/-- A row of data that is being filled: its first k elements are done. -/
structure Filled (es : Nat) (z : Value) (μ μ' : Mem) (ds : List D) (k : Nat) (ys : List Value) (g : Mem) : Prop where
  le : k ≤ ds.length
  len : ys.length = ds.length
  done : OwnRows es (ds.take k) (ys.take k) g
  rest : ∀ j, k ≤ j → j < ds.length → ys[j]? = some z
  sub : g.Le μ'
  new : ∀ x, g x ≠ none → μ x = none
  grow : μ.Le μ'
theorem Filled.start {es : Nat} {z : Value} {μ : Mem} {ds : List D} {n : Nat} (h : ds.length = n) : Filled es z μ μ ds 0 (List.replicate n z) Mem.nil :=
  ⟨by simp, by simp [h], by simpa using OwnRows.nil es, fun j _ hj => by rw [List.getElem?_replicate, if_pos (by omega)], (fun _ _ h => nomatch h), fun _ h => absurd rfl h, Mem.Le.refl μ⟩
theorem Filled.step {es : Nat} {z : Value} {μ μ' μ'' : Mem} {ds : List D} {k : Nat} {ys : List Value} {g : Mem} (f : Filled es z μ μ' ds k ys g) {d : D} {v : Value} (hd : ds[k]? = some d) (hn : d.n = es) (hv : Fresh μ' μ'' d v) (hl : μ'.Le μ'') :
    ∃ g', Filled es z μ μ'' ds (k + 1) (ys.set k v) g' := by
  obtain ⟨g', h1, h2, h3⟩ := hv
  have hk : k < ds.length := (List.getElem?_eq_some_iff.1 hd).1
  have hlen := f.len
  refine ⟨g.join g', ⟨hk, by simpa using f.len, ?_, fun j hj hj' => ?_, join_le (f.sub.trans hl) h2, fun x hx => ?_, f.grow.trans hl⟩⟩
  · rw [List.take_add_one, hd, Option.toList_some, List.take_add_one, List.getElem?_set_self (by omega), Option.toList_some, List.take_set_of_le (Nat.le_refl k)]
    exact f.done.snoc h1 hn (fresh_apart f.sub h3)
  · rw [List.getElem?_set_ne (by omega)]
    exact f.rest j (by omega) hj'
  · rcases join_ne hx with h | h
    · exact f.new x h
    · cases h0 : μ x with
      | none => rfl
      | some o => have := h3 x h; rw [f.grow x o h0] at this; cases this
theorem Filled.all {es : Nat} {z : Value} {μ μ' : Mem} {ds : List D} {k : Nat} {ys : List Value} {g : Mem} (f : Filled es z μ μ' ds k ys g) (hk : k = ds.length) : OwnRows es ds ys g := by
  subst hk
  have := f.done
  rwa [List.take_length, List.take_of_length_le (by rw [f.len]; exact Nat.le_refl _)] at this
theorem ElemAt.mono {μ μ' : Mem} (h : μ.Le μ') {base : Option Addr} {n es : Nat} {i : Int} {a : Addr} {cs : List Value} (k : ElemAt μ base n es i a cs) : ElemAt μ' base n es i a cs :=
  ⟨k.lo, k.hi, k.addr, k.len, fun j v hj => h.cell (k.cell j v hj)⟩
theorem Sl.mono {μ μ' : Mem} (h : μ.Le μ') {es n : Nat} {base : Option Addr} {xs : List D} (k : Sl μ es base n xs) : Sl μ' es base n xs :=
  ⟨k.len, k.max, fun i x hx => by
    obtain ⟨a, cs, h1, h2⟩ := k.get i x hx
    exact ⟨a, cs, h1.mono h, Rep.mono h x cs h2⟩⟩
end Go.Vx

/- Contracts: the laws' own functions on terms and bindings: sizes, copies, equality. -/
namespace Go.Vx
open Go.Proofs Classical
/-! ### Terms -/
inductive Tm where
  | mk (kind num : Int) (name : ByteArray) (args : List Tm)
theorem Tm.ind {p : Tm → Prop} (h : ∀ k n s l, (∀ t ∈ l, p t) → p (.mk k n s l)) : ∀ t, p t
  | .mk k n s l => h k n s l fun t _ => Tm.ind h t
mutual
def Tm.d : Tm → D
  | .mk k n s l => .st [.i k, .i n, .s s, .sl 4 (Tm.ds l)]
def Tm.ds : List Tm → List D
  | [] => []
  | t :: r => t.d :: Tm.ds r
end
theorem Tm.ds_map : ∀ l : List Tm, Tm.ds l = l.map Tm.d
  | [] => rfl
  | t :: r => by simp [Tm.ds, Tm.ds_map r]
theorem Tm.d_mk (k n : Int) (s : ByteArray) (l : List Tm) : (Tm.mk k n s l).d = .st [.i k, .i n, .s s, .sl 4 (l.map Tm.d)] := by rw [Tm.d, Tm.ds_map]
theorem Tm.d_n (t : Tm) : t.d.n = 4 := by cases t; rfl
def Tm.kind : Tm → Int | .mk k _ _ _ => k
def Tm.num : Tm → Int | .mk _ n _ _ => n
def Tm.name : Tm → ByteArray | .mk _ _ s _ => s
def Tm.args : Tm → List Tm | .mk _ _ _ l => l
/-- The cells of a term. -/
def Tm.cs (t : Tm) (p : Option Addr × Nat) : List Value := [.int .i64 t.kind, .int .i64 t.num, .string t.name, .slice p.1 t.args.length p.2]
section
variable {μ : Mem}
theorem Tm.invS {k n : Int} {s : ByteArray} {l : List Tm} {cs : List Value} (h : Rep μ (Tm.mk k n s l).d cs) : ∃ base cap, cs = [.int .i64 k, .int .i64 n, .string s, .slice base l.length cap] ∧ Sl μ 4 base l.length (l.map Tm.d) := by
  rw [Tm.d_mk] at h
  obtain ⟨c1, c2, rfl, rfl, c3, c4, rfl, rfl, c5, c6, rfl, rfl, c7, c8, rfl, h4, rfl⟩ := h
  have hl := Rep.len _ _ h4
  match c7, hl with
  | [v], _ =>
    obtain ⟨base, cap, rfl, hsl⟩ := h4.sl
    rw [List.length_map] at hsl
    exact ⟨base, cap, by simp, hsl⟩
theorem Tm.inv {k n : Int} {s : ByteArray} {l : List Tm} {v : Value} (h : RepV μ (Tm.mk k n s l).d v) : ∃ base cap, v = .agg #[.int .i64 k, .int .i64 n, .string s, .slice base l.length cap] ∧ Sl μ 4 base l.length (l.map Tm.d) := by
  have h' : ∃ cs, v = .agg (List.toArray cs) ∧ Rep μ (Tm.mk k n s l).d cs := by rw [Tm.d_mk] at h ⊢; exact h
  obtain ⟨cs, e, h2⟩ := h'
  obtain ⟨base, cap, e2, hsl⟩ := Tm.invS h2
  exact ⟨base, cap, by rw [e, e2], hsl⟩
theorem Tm.rep {t : Tm} {cs : List Value} (h : Rep μ t.d cs) : RepV μ t.d (.agg cs.toArray) := by
  cases t; rw [Tm.d_mk] at h ⊢; exact ⟨cs, rfl, h⟩
theorem Tm.invV {t : Tm} {v : Value} (h : RepV μ t.d v) : ∃ p : Option Addr × Nat, v = .agg #[.int .i64 t.kind, .int .i64 t.num, .string t.name, .slice p.1 t.args.length p.2] := by
  cases t; obtain ⟨b, c, h, _⟩ := Tm.inv h; exact ⟨(b, c), h⟩
/-- An element of a slice of terms. -/
theorem Tm.elem {l : List Tm} {base : Option Addr} {n : Nat} (h : Sl μ 4 base n (l.map Tm.d)) {i : Nat} {t : Tm} (ht : l[i]? = some t) : ∃ ad, ∃ p : Option Addr × Nat, ElemAt μ base n 4 i ad (t.cs p) ∧ RepV μ t.d (.agg (t.cs p).toArray) := by
  obtain ⟨ad, cs, h1, h2⟩ := h.get i t.d (by simp [ht])
  have h3 := Tm.rep h2
  cases t with
  | mk k n s l =>
    obtain ⟨b, c, rfl, hsl⟩ := Tm.invS h2
    exact ⟨ad, (b, c), h1, h3⟩
theorem szTermS_of {l : List Tm} (he : ∀ t ∈ l, ∀ {v : Value} {left : Int}, RepV μ t.d v → 0 ≤ left → left ≤ 1048576 → t.d.wd → Gives Try.prog 36 [v, .int .i64 left] μ (.int .i64 (szR left t.d.sz)))
    {base : Option Addr} {cap : Nat} {left : Int} (hsl : Sl μ 4 base l.length (l.map Tm.d)) (hl : 0 ≤ left) (hl2 : left ≤ 1048576) (hw : D.wds (l.map Tm.d)) :
    Gives Try.prog 88 [.slice base l.length cap, .int .i64 left] μ (.int .i64 (szR left (l.length + D.szs (l.map Tm.d)))) := by
  have hn := maxLen_le hsl.max
  refine Spec.mk Try.func88 (by kernel_rfl) ?_
  refine num64 (by omega) (by omega) (ifd (fun h => ret_gives ?_ rfl) (fun h => ?_))
  · rw [szR_neg (by omega)]
  refine loop_intro (fun i : Nat => i ≤ l.length ∧ (D.szs ((l.map Tm.d).take i) : Int) ≤ left - l.length) (fun i => ⟨[(0, .val (.slice base l.length cap)), (1, .val (.int .i64 (left - l.length - D.szs ((l.map Tm.d).take i)))), (5, .val (.int .i64 i))], [], 0, μ, Mem.nil⟩) (fun i => l.length - i)
    0 ⟨by omega, by simp [D.szs]; omega⟩ (fun i => ⟨rfl, rfl⟩) ⟨⟨rfl, by show some (SV.val (.int .i64 _)) = some (SV.val (.int .i64 _)); congr 3; simp [D.szs], rfl, trivial⟩, trivial, rfl, rfl⟩ ?_
  rintro i ⟨hi, hz⟩
  refine ifd (fun h => ?_) (fun h => ?_)
  · obtain ⟨t, ht⟩ := at_some (l := l) (i := i) (by omega)
    have hx := at_map (f := Tm.d) ht
    have hs := D.szs_take hx
    have hs' := D.szs_le (l.map Tm.d) (i + 1)
    obtain ⟨ad, p, hel, hr⟩ := Tm.elem hsl ht
    refine elem_intro hel (call_gives (he t (mem_at ht) hr (by omega) (by omega) (D.wds_mem hw _ (mem_at hx))) ?_)
    refine ifd (fun h => ret_gives ?_ rfl) (fun h => ?_)
    · have := szR_lt h
      rw [szR_neg (by omega)]
    · have := szR_ge h
      refine num64 (by omega) (by omega) ⟨i + 1, ⟨by omega, by omega⟩, by omega, ⟨⟨rfl, ?_, rfl, trivial⟩, trivial, rfl, rfl⟩⟩
      rw [szR_pos this, hs]
      show some (SV.val (.int .i64 _)) = some (SV.val (.int .i64 _))
      congr 3; omega
  · obtain rfl : i = l.length := by omega
    rw [List.take_of_length_le (by simp)] at hz ⊢
    refine ret_gives ?_ rfl
    rw [szR_pos (by omega)]; congr 1; omega
theorem szTerm_spec : ∀ (t : Tm) {v : Value} {left : Int}, RepV μ t.d v → 0 ≤ left → left ≤ 1048576 → t.d.wd → Gives Try.prog 36 [v, .int .i64 left] μ (.int .i64 (szR left t.d.sz)) :=
  Tm.ind fun k n s l ih v left hv hl hl2 hw => by
    obtain ⟨base, cap, rfl, hsl⟩ := Tm.inv hv
    have hd := Tm.d_mk k n s l
    have hsz : (Tm.mk k n s l).d.sz = s.size + (l.length + D.szs (l.map Tm.d)) := by rw [hd]; simp [D.sz, D.szs]
    rw [hd] at hw
    have h1 : s.size ≤ maxLen := hw.2.2.1
    have h1 := maxLen_le h1
    refine Spec.mk Try.func36 (by kernel_rfl) ?_
    intro r
    refine num64 (by omega) (by omega) (ifd (fun h => ret_gives ?_ rfl) (fun h => ?_))
    · rw [szR_neg (by omega)]
    refine call_gives (szTermS_of (l := l) (fun t ht _ _ => ih t ht) hsl (by omega) (by omega) hw.2.2.2.1) ?_
    refine ifd (fun h => ret_gives ?_ rfl) (fun h => ret_gives ?_ rfl)
    · have := szR_lt h
      rw [szR_neg (by omega)]
    · have := szR_ge h
      rw [szR_pos this, szR_pos (by omega)]
      congr 1; omega
theorem szTermS_spec {l : List Tm} {base : Option Addr} {cap : Nat} {left : Int} (hsl : Sl μ 4 base l.length (l.map Tm.d)) (hl : 0 ≤ left) (hl2 : left ≤ 1048576) (hw : D.wds (l.map Tm.d)) :
    Gives Try.prog 88 [.slice base l.length cap, .int .i64 left] μ (.int .i64 (szR left (l.length + D.szs (l.map Tm.d)))) := szTermS_of (fun t _ _ _ => szTerm_spec t) hsl hl hl2 hw
/-! ### Copies -/
theorem toTermS_of {l : List Tm} (he : ∀ t ∈ l, ∀ {μ : Mem} {v : Value}, RepV μ t.d v → t.d.sz ≤ 1048576 → Spec Try.prog 38 [v] μ fun v μ' => Fresh μ μ' t.d v)
    {base : Option Addr} {cap : Nat} (hsl : Sl μ 4 base l.length (l.map Tm.d)) (hb : l.length + D.szs (l.map Tm.d) ≤ 1048576) :
    Spec Try.prog 91 [.slice base l.length cap] μ fun v μ' => Fresh μ μ' (.sl 4 (l.map Tm.d)) v := by
  refine Spec.mk Try.func91 (by kernel_rfl) ?_
  refine make_intro l.length rfl rfl (by simp only; omega) (Nat.le_trans (m := 1048576) (by omega) (by decide)) ?_
  intro r
  refine loop_intro (fun p : Nat × List Value × Mem => μ.Le p.2.2 ∧ ∃ g, Filled 4 (.agg #[.int .i64 0, .int .i64 0, .string ⟨#[]⟩, .slice none 0 0]) μ p.2.2 (l.map Tm.d) p.1 p.2.1 g)
    (fun (i, xs, μ') => ⟨[(0, .val (.slice base l.length cap)), (3, .row 0 (some r) l.length l.length), (4, .val (.int .i64 i))], [(0, some (.row (some r) l.length 66 4 xs))], 1, μ', Mem.nil⟩) (fun p => l.length - p.1)
    (0, List.replicate l.length (.agg #[.int .i64 0, .int .i64 0, .string ⟨#[]⟩, .slice none 0 0]), μ) ⟨Mem.Le.refl μ, _, Filled.start (by simp)⟩ (fun (_, _, _) => ⟨rfl, rfl⟩) ⟨⟨rfl, rfl, rfl, trivial⟩, ⟨rfl, trivial⟩, rfl, rfl⟩ ?_
  rintro ⟨i, xs, μ'⟩ ⟨hle, g, hf⟩
  dsimp only at hle hf
  have hi := hf.le
  have hlen := hf.len
  rw [List.length_map] at hi hlen
  refine ifd (fun h => ?_) (fun h => ?_)
  · obtain ⟨t, ht⟩ := at_some (l := l) (i := i) (by omega)
    have hx := at_map (f := Tm.d) ht
    have hs := D.szs_mem hx
    obtain ⟨ad, p, hel, hr⟩ := Tm.elem (hsl.mono hle) ht
    refine elem_intro hel (call_plain (he t (mem_at ht) hr (by omega)) fun v μ'' hle2 hfr => ?_)
    obtain ⟨g', hf'⟩ := hf.step hx (Tm.d_n t) hfr hle2
    obtain ⟨p2, rfl⟩ := Tm.invV hfr.rep
    refine rel_intro i rfl (by omega) ?_
    refine get_intro _ (hf.rest i (by omega) (by simpa using h)) ?_
    refine num64 (by omega) (by omega) ⟨(i + 1, _, μ''), ⟨hle.trans hle2, g', hf'⟩, by dsimp only; omega, ⟨⟨rfl, rfl, rfl, trivial⟩, ⟨rfl, trivial⟩, rfl, rfl⟩⟩
  · obtain rfl : i = l.length := by omega
    refine ret_frz [0] fun μ2 hle2 hno hrow => .inl ?_
    have := Fresh.ofRow (hf.all (by simp)) hf.sub hf.new hle hle2 hno hrow (Nat.le_trans (m := 1048576) (by omega) (by decide))
    rw [hlen] at this
    exact this
theorem toTerm_spec : ∀ (t : Tm) {μ : Mem} {v : Value}, RepV μ t.d v → t.d.sz ≤ 1048576 → Spec Try.prog 38 [v] μ fun v μ' => Fresh μ μ' t.d v :=
  Tm.ind fun k n s l ih μ v hv hb => by
    obtain ⟨base, cap, rfl, hsl⟩ := Tm.inv hv
    have hd := Tm.d_mk k n s l
    have hsz : (Tm.mk k n s l).d.sz = s.size + (l.length + D.szs (l.map Tm.d)) := by rw [hd]; simp [D.sz, D.szs]
    refine Spec.mk Try.func38 (by kernel_rfl) ?_
    intro r1 r2 r3
    refine call_plain (toTermS_of (l := l) (fun t ht _ _ => ih t ht) hsl (by omega)) fun v μ' hle hf => ?_
    obtain ⟨h, h1, h2, h3⟩ := hf
    obtain ⟨base', cap', rfl⟩ := OwnV.slice h1
    rw [hd]
    exact ret_plain ⟨h, ⟨_, rfl, OwnS.int (OwnS.int (OwnS.str (OwnS.last h1)))⟩, h2, h3⟩
theorem toTermS_spec {l : List Tm} {base : Option Addr} {cap : Nat} (hsl : Sl μ 4 base l.length (l.map Tm.d)) (hb : l.length + D.szs (l.map Tm.d) ≤ 1048576) :
    Spec Try.prog 91 [.slice base l.length cap] μ fun v μ' => Fresh μ μ' (.sl 4 (l.map Tm.d)) v := toTermS_of (fun t _ _ _ => toTerm_spec t) hsl hb
/-! ### Equality -/
theorem eqTermS_of {l : List Tm} (he : ∀ t ∈ l, ∀ {v v' : Value}, RepV μ t.d v → RepV μ t.d v' → Gives Try.prog 40 [v, v'] μ (.bool true))
    {base base' : Option Addr} {cap cap' : Nat} (hl : Sl μ 4 base l.length (l.map Tm.d)) (hl' : Sl μ 4 base' l.length (l.map Tm.d)) :
    Gives Try.prog 95 [.slice base l.length cap, .slice base' l.length cap'] μ (.bool true) := by
  have hn := maxLen_le hl.max
  refine Spec.mk Try.func95 (by kernel_rfl) ?_
  refine ifnd (fun h => absurd rfl h) (fun _ => ?_)
  refine loop_intro (fun i : Nat => i ≤ l.length) (fun i => ⟨[(0, .val (.slice base l.length cap)), (1, .val (.slice base' l.length cap')), (5, .val (.int .i64 i))], [], 0, μ, Mem.nil⟩) (fun i => l.length - i)
    0 (by omega) (fun i => ⟨rfl, rfl⟩) ⟨⟨rfl, rfl, rfl, trivial⟩, trivial, rfl, rfl⟩ ?_
  intro i hi
  refine ifd (fun h => ?_) (fun h => ?_)
  · obtain ⟨t, ht⟩ := at_some (l := l) (i := i) (by omega)
    obtain ⟨ad, p, hel, hr⟩ := Tm.elem hl ht
    obtain ⟨ad', p', hel', hr'⟩ := Tm.elem hl' ht
    refine elem_intro hel (elem_intro hel' (call_gives (he t (mem_at ht) hr hr') ?_))
    refine if_intro (fun h => nomatch h) (fun _ => ?_)
    exact num64 (by omega) (by omega) ⟨i + 1, by omega, by omega, ⟨⟨rfl, rfl, rfl, trivial⟩, trivial, rfl, rfl⟩⟩
  · exact ret_gives rfl rfl
theorem eqTerm_spec : ∀ (t : Tm) {v v' : Value}, RepV μ t.d v → RepV μ t.d v' → Gives Try.prog 40 [v, v'] μ (.bool true) :=
  Tm.ind fun k n s l ih v v' hv hv' => by
    obtain ⟨base, cap, rfl, hsl⟩ := Tm.inv hv
    obtain ⟨base', cap', rfl, hsl'⟩ := Tm.inv hv'
    refine Spec.mk Try.func40 (by kernel_rfl) ?_
    intro r1 r2
    repeat' (first
      | refine ifnd (fun h => absurd rfl h) (fun _ => ?_)
      | refine call_gives (eqTermS_of (l := l) (fun t ht _ _ => ih t ht) hsl hsl') ?_
      | refine if_intro (fun h => nomatch h) (fun _ => ?_))
    exact ret_gives rfl rfl
theorem eqTermS_spec {l : List Tm} {base base' : Option Addr} {cap cap' : Nat} (hl : Sl μ 4 base l.length (l.map Tm.d)) (hl' : Sl μ 4 base' l.length (l.map Tm.d)) :
    Gives Try.prog 95 [.slice base l.length cap, .slice base' l.length cap'] μ (.bool true) := eqTermS_of (fun t _ _ _ => eqTerm_spec t) hl hl'
end
end Go.Vx

/- Contracts: the laws' own functions on bindings: sizes, copies, equality. -/
namespace Go.Vx
open Go.Proofs Classical
structure Bd where
  var : Int
  to : Tm
def Bd.d (b : Bd) : D := .st [.i b.var, b.to.d]
theorem Bd.d_n (b : Bd) : b.d.n = 5 := by
  have := Tm.d_n b.to
  simp only [Bd.d, D.n, D.ns, this]
def Bd.cs (b : Bd) (p : Option Addr × Nat) : List Value := [.int .i64 b.var, .int .i64 b.to.kind, .int .i64 b.to.num, .string b.to.name, .slice p.1 b.to.args.length p.2]
section
variable {μ : Mem}
theorem Tm.invC {t : Tm} {cs : List Value} (h : Rep μ t.d cs) : ∃ p : Option Addr × Nat, cs = t.cs p := by
  cases t
  obtain ⟨b, c, h, _⟩ := Tm.invS h
  exact ⟨(b, c), h⟩
theorem Bd.invS {b : Bd} {cs : List Value} (h : Rep μ b.d cs) : ∃ p : Option Addr × Nat, cs = b.cs p ∧ RepV μ b.to.d (.agg (b.to.cs p).toArray) := by
  obtain ⟨c1, c2, rfl, rfl, c3, c4, rfl, h3, rfl⟩ := h
  obtain ⟨p, rfl⟩ := Tm.invC h3
  exact ⟨p, by simp [Bd.cs, Tm.cs], Tm.rep h3⟩
theorem Bd.inv {b : Bd} {v : Value} (h : RepV μ b.d v) : ∃ p : Option Addr × Nat, v = .agg #[.int .i64 b.var, .int .i64 b.to.kind, .int .i64 b.to.num, .string b.to.name, .slice p.1 b.to.args.length p.2] ∧ RepV μ b.to.d (.agg (b.to.cs p).toArray) := by
  obtain ⟨cs, rfl, h⟩ := h
  obtain ⟨p, rfl, h2⟩ := Bd.invS (b := b) h
  exact ⟨p, rfl, h2⟩
theorem Bd.invV {b : Bd} {v : Value} (h : RepV μ b.d v) : ∃ p : Option Addr × Nat, v = .agg #[.int .i64 b.var, .int .i64 b.to.kind, .int .i64 b.to.num, .string b.to.name, .slice p.1 b.to.args.length p.2] := by
  obtain ⟨p, h, _⟩ := Bd.inv h
  exact ⟨p, h⟩
theorem Bd.elem {l : List Bd} {base : Option Addr} {n : Nat} (h : Sl μ 5 base n (l.map Bd.d)) {i : Nat} {b : Bd} (hb : l[i]? = some b) : ∃ ad, ∃ p : Option Addr × Nat, ElemAt μ base n 5 i ad (b.cs p) ∧ RepV μ b.d (.agg (b.cs p).toArray) := by
  obtain ⟨ad, cs, h1, h2⟩ := h.get i b.d (by simp [hb])
  obtain ⟨p, rfl, _⟩ := Bd.invS (b := b) h2
  exact ⟨ad, p, h1, _, rfl, h2⟩
theorem szBinding_spec (b : Bd) {v : Value} {left : Int} (hv : RepV μ b.d v) (hl : 0 ≤ left) (hl2 : left ≤ 1048576) (hw : b.d.wd) : Gives Try.prog 67 [v, .int .i64 left] μ (.int .i64 (szR left b.d.sz)) := by
  obtain ⟨p, rfl, ht⟩ := Bd.inv hv
  have hsz : b.d.sz = b.to.d.sz := by simp [Bd.d, D.sz, D.szs]
  refine Spec.mk Try.func67 (by kernel_rfl) ?_
  intro r
  refine call_gives (szTerm_spec b.to ht hl hl2 hw.2.1) ?_
  rw [hsz]
  refine ifd (fun h => ret_gives ?_ rfl) (fun h => ret_gives rfl rfl)
  rw [szR_neg (szR_lt h)]
theorem szBindingS_of {l : List Bd} (he : ∀ t ∈ l, ∀ {v : Value} {left : Int}, RepV μ t.d v → 0 ≤ left → left ≤ 1048576 → t.d.wd → Gives Try.prog 67 [v, .int .i64 left] μ (.int .i64 (szR left t.d.sz)))
    {base : Option Addr} {cap : Nat} {left : Int} (hsl : Sl μ 5 base l.length (l.map Bd.d)) (hl : 0 ≤ left) (hl2 : left ≤ 1048576) (hw : D.wds (l.map Bd.d)) :
    Gives Try.prog 22 [.slice base l.length cap, .int .i64 left] μ (.int .i64 (szR left (l.length + D.szs (l.map Bd.d)))) := by
  have hn := maxLen_le hsl.max
  refine Spec.mk Try.func22 (by kernel_rfl) ?_
  refine num64 (by omega) (by omega) (ifd (fun h => ret_gives ?_ rfl) (fun h => ?_))
  · rw [szR_neg (by omega)]
  refine loop_intro (fun i : Nat => i ≤ l.length ∧ (D.szs ((l.map Bd.d).take i) : Int) ≤ left - l.length) (fun i => ⟨[(0, .val (.slice base l.length cap)), (1, .val (.int .i64 (left - l.length - D.szs ((l.map Bd.d).take i)))), (5, .val (.int .i64 i))], [], 0, μ, Mem.nil⟩) (fun i => l.length - i)
    0 ⟨by omega, by simp [D.szs]; omega⟩ (fun i => ⟨rfl, rfl⟩) ⟨⟨rfl, by show some (SV.val (.int .i64 _)) = some (SV.val (.int .i64 _)); congr 3; simp [D.szs], rfl, trivial⟩, trivial, rfl, rfl⟩ ?_
  rintro i ⟨hi, hz⟩
  refine ifd (fun h => ?_) (fun h => ?_)
  · obtain ⟨t, ht⟩ := at_some (l := l) (i := i) (by omega)
    have hx := at_map (f := Bd.d) ht
    have hs := D.szs_take hx
    have hs' := D.szs_le (l.map Bd.d) (i + 1)
    obtain ⟨ad, p, hel, hr⟩ := Bd.elem hsl ht
    refine elem_intro hel (call_gives (he t (mem_at ht) hr (by omega) (by omega) (D.wds_mem hw _ (mem_at hx))) ?_)
    refine ifd (fun h => ret_gives ?_ rfl) (fun h => ?_)
    · have := szR_lt h
      rw [szR_neg (by omega)]
    · have := szR_ge h
      refine num64 (by omega) (by omega) ⟨i + 1, ⟨by omega, by omega⟩, by omega, ⟨⟨rfl, ?_, rfl, trivial⟩, trivial, rfl, rfl⟩⟩
      rw [szR_pos this, hs]
      show some (SV.val (.int .i64 _)) = some (SV.val (.int .i64 _))
      congr 3; omega
  · obtain rfl : i = l.length := by omega
    rw [List.take_of_length_le (by simp)] at hz ⊢
    refine ret_gives ?_ rfl
    rw [szR_pos (by omega)]; congr 1; omega
theorem szBindingS_spec {l : List Bd} {base : Option Addr} {cap : Nat} {left : Int} (hsl : Sl μ 5 base l.length (l.map Bd.d)) (hl : 0 ≤ left) (hl2 : left ≤ 1048576) (hw : D.wds (l.map Bd.d)) :
    Gives Try.prog 22 [.slice base l.length cap, .int .i64 left] μ (.int .i64 (szR left (l.length + D.szs (l.map Bd.d)))) := szBindingS_of (fun t _ _ _ => szBinding_spec t) hsl hl hl2 hw
theorem toBinding_spec (b : Bd) {μ : Mem} {v : Value} (hv : RepV μ b.d v) (hb : b.d.sz ≤ 1048576) : Spec Try.prog 73 [v] μ fun v μ' => Fresh μ μ' b.d v := by
  obtain ⟨p, rfl, ht⟩ := Bd.inv hv
  have hsz : b.d.sz = b.to.d.sz := by simp [Bd.d, D.sz, D.szs]
  refine Spec.mk Try.func73 (by kernel_rfl) ?_
  intro r1 r2 r3
  refine call_plain (toTerm_spec b.to ht (by omega)) fun v μ' hle hf => ?_
  obtain ⟨p', rfl⟩ := Tm.invV hf.rep
  obtain ⟨h, h1, h2, h3⟩ := hf
  exact ret_plain ⟨h, ⟨_, rfl, OwnS.int (OwnS.last h1.cells)⟩, h2, h3⟩
theorem toBindingS_of {l : List Bd} (he : ∀ t ∈ l, ∀ {μ : Mem} {v : Value}, RepV μ t.d v → t.d.sz ≤ 1048576 → Spec Try.prog 73 [v] μ fun v μ' => Fresh μ μ' t.d v)
    {base : Option Addr} {cap : Nat} (hsl : Sl μ 5 base l.length (l.map Bd.d)) (hb : l.length + D.szs (l.map Bd.d) ≤ 1048576) :
    Spec Try.prog 24 [.slice base l.length cap] μ fun v μ' => Fresh μ μ' (.sl 5 (l.map Bd.d)) v := by
  refine Spec.mk Try.func24 (by kernel_rfl) ?_
  refine make_intro l.length rfl rfl (by simp only; omega) (Nat.le_trans (m := 1048576) (by omega) (by decide)) ?_
  intro r
  refine loop_intro (fun p : Nat × List Value × Mem => μ.Le p.2.2 ∧ ∃ g, Filled 5 (.agg #[.int .i64 0, .int .i64 0, .int .i64 0, .string ⟨#[]⟩, .slice none 0 0]) μ p.2.2 (l.map Bd.d) p.1 p.2.1 g)
    (fun (i, xs, μ') => ⟨[(0, .val (.slice base l.length cap)), (3, .row 0 (some r) l.length l.length), (4, .val (.int .i64 i))], [(0, some (.row (some r) l.length 109 5 xs))], 1, μ', Mem.nil⟩) (fun p => l.length - p.1)
    (0, List.replicate l.length (.agg #[.int .i64 0, .int .i64 0, .int .i64 0, .string ⟨#[]⟩, .slice none 0 0]), μ) ⟨Mem.Le.refl μ, _, Filled.start (by simp)⟩ (fun (_, _, _) => ⟨rfl, rfl⟩) ⟨⟨rfl, rfl, rfl, trivial⟩, ⟨rfl, trivial⟩, rfl, rfl⟩ ?_
  rintro ⟨i, xs, μ'⟩ ⟨hle, g, hf⟩
  dsimp only at hle hf
  have hi := hf.le
  have hlen := hf.len
  rw [List.length_map] at hi hlen
  refine ifd (fun h => ?_) (fun h => ?_)
  · obtain ⟨t, ht⟩ := at_some (l := l) (i := i) (by omega)
    have hx := at_map (f := Bd.d) ht
    have hs := D.szs_mem hx
    obtain ⟨ad, p, hel, hr⟩ := Bd.elem (hsl.mono hle) ht
    refine elem_intro hel (call_plain (he t (mem_at ht) hr (by omega)) fun v μ'' hle2 hfr => ?_)
    obtain ⟨g', hf'⟩ := hf.step hx (Bd.d_n t) hfr hle2
    obtain ⟨p2, rfl⟩ := Bd.invV hfr.rep
    refine rel_intro i rfl (by omega) ?_
    refine get_intro _ (hf.rest i (by omega) (by simpa using h)) ?_
    refine num64 (by omega) (by omega) ⟨(i + 1, _, μ''), ⟨hle.trans hle2, g', hf'⟩, by dsimp only; omega, ⟨⟨rfl, rfl, rfl, trivial⟩, ⟨rfl, trivial⟩, rfl, rfl⟩⟩
  · obtain rfl : i = l.length := by omega
    refine ret_frz [0] fun μ2 hle2 hno hrow => .inl ?_
    have := Fresh.ofRow (hf.all (by simp)) hf.sub hf.new hle hle2 hno hrow (Nat.le_trans (m := 1048576) (by omega) (by decide))
    rw [hlen] at this
    exact this
theorem toBindingS_spec {l : List Bd} {base : Option Addr} {cap : Nat} (hsl : Sl μ 5 base l.length (l.map Bd.d)) (hb : l.length + D.szs (l.map Bd.d) ≤ 1048576) :
    Spec Try.prog 24 [.slice base l.length cap] μ fun v μ' => Fresh μ μ' (.sl 5 (l.map Bd.d)) v := toBindingS_of (fun t _ _ _ => toBinding_spec t) hsl hb
theorem eqBinding_spec (b : Bd) {v v' : Value} (hv : RepV μ b.d v) (hv' : RepV μ b.d v') : Gives Try.prog 78 [v, v'] μ (.bool true) := by
  obtain ⟨p, rfl, ht⟩ := Bd.inv hv
  obtain ⟨p', rfl, ht'⟩ := Bd.inv hv'
  refine Spec.mk Try.func78 (by kernel_rfl) ?_
  intro r1 r2
  repeat' (first
    | refine ifnd (fun h => absurd rfl h) (fun _ => ?_)
    | refine call_gives (eqTerm_spec b.to ht ht') ?_
    | refine if_intro (fun h => nomatch h) (fun _ => ?_))
  exact ret_gives rfl rfl
theorem eqBindingS_of {l : List Bd} (he : ∀ t ∈ l, ∀ {v v' : Value}, RepV μ t.d v → RepV μ t.d v' → Gives Try.prog 78 [v, v'] μ (.bool true))
    {base base' : Option Addr} {cap cap' : Nat} (hl : Sl μ 5 base l.length (l.map Bd.d)) (hl' : Sl μ 5 base' l.length (l.map Bd.d)) :
    Gives Try.prog 26 [.slice base l.length cap, .slice base' l.length cap'] μ (.bool true) := by
  have hn := maxLen_le hl.max
  refine Spec.mk Try.func26 (by kernel_rfl) ?_
  refine ifnd (fun h => absurd rfl h) (fun _ => ?_)
  refine loop_intro (fun i : Nat => i ≤ l.length) (fun i => ⟨[(0, .val (.slice base l.length cap)), (1, .val (.slice base' l.length cap')), (5, .val (.int .i64 i))], [], 0, μ, Mem.nil⟩) (fun i => l.length - i)
    0 (by omega) (fun i => ⟨rfl, rfl⟩) ⟨⟨rfl, rfl, rfl, trivial⟩, trivial, rfl, rfl⟩ ?_
  intro i hi
  refine ifd (fun h => ?_) (fun h => ?_)
  · obtain ⟨t, ht⟩ := at_some (l := l) (i := i) (by omega)
    obtain ⟨ad, p, hel, hr⟩ := Bd.elem hl ht
    obtain ⟨ad', p', hel', hr'⟩ := Bd.elem hl' ht
    refine elem_intro hel (elem_intro hel' (call_gives (he t (mem_at ht) hr hr') ?_))
    refine if_intro (fun h => nomatch h) (fun _ => ?_)
    exact num64 (by omega) (by omega) ⟨i + 1, by omega, by omega, ⟨⟨rfl, rfl, rfl, trivial⟩, trivial, rfl, rfl⟩⟩
  · exact ret_gives rfl rfl
theorem eqBindingS_spec {l : List Bd} {base base' : Option Addr} {cap cap' : Nat} (hl : Sl μ 5 base l.length (l.map Bd.d)) (hl' : Sl μ 5 base' l.length (l.map Bd.d)) :
    Gives Try.prog 26 [.slice base l.length cap, .slice base' l.length cap'] μ (.bool true) := eqBindingS_of (fun t _ _ _ => eqBinding_spec t) hl hl'
end
end Go.Vx

/- Types that all arguments are made of. -/
namespace Go.Vx
open Go.Proofs
theorem und_int : Try.prog.underlying 3 = some (.int .i64) := ti3.kind
theorem und_bool : Try.prog.underlying 4 = some .bool := ti4.kind
theorem und_string : Try.prog.underlying 9 = some .string := ti9.kind
theorem lift_list {α : Type} {f : α → D} : ∀ {xs : List D}, (∀ x ∈ xs, ∃ a, x = f a) → ∃ l : List α, xs = l.map f
  | [], _ => ⟨[], rfl⟩
  | x :: xs, h => by
    obtain ⟨a, rfl⟩ := h x (by simp)
    obtain ⟨l, rfl⟩ := lift_list (xs := xs) fun y hy => h y (by simp [hy])
    exact ⟨a :: l, rfl⟩
theorem cellsOf_tt {P : Program} {t : TypeId} {i : TI} (h : TIok P t i) : P.cellsOf t = i.size := by
  obtain ⟨inf, hin, hs, _⟩ := h.info'
  simp [Program.cellsOf, hin, hs]
end Go.Vx

/- What the law calls of terms and bindings read. -/
namespace Go.Vx
open Go.Proofs
theorem read_Term : Reads Try.prog 61 fun d => ∃ t : Tm, d = t.d ∧ t.d.wd := fun n => by
  induction n using Nat.strongRecOn with
  | ind n ih =>
    match n, ih with
    | 0, _ => exact ReadsTo.zero _
    | n + 1, ih =>
      have hs : ReadsTo Try.prog n 59 fun d => ∃ xs, d = .sl 4 xs ∧ ∀ x ∈ xs, ∃ t : Tm, x = t.d ∧ t.d.wd := by
        match n, ih with
        | 0, _ => exact ReadsTo.zero _
        | n + 1, ih => exact reads_slice ti59.kind (cellsOf_tt ti61) (ih n (by omega)) (fun d h => by obtain ⟨t, rfl, _⟩ := h; exact Tm.d_n t)
      exact (reads_struct ti61 rfl (FieldsTo.cons ti3 (reads_int und_int n) (FieldsTo.cons ti3 (reads_int und_int n) (FieldsTo.cons ti9 (reads_str und_string n) (FieldsTo.cons ti59 hs FieldsTo.nil))))).weaken fun d h => by
        obtain ⟨ds, rfl, h⟩ := h
        obtain ⟨_, _, rfl, ⟨k, rfl, hk⟩, q1⟩ := h.cons
        obtain ⟨_, _, rfl, ⟨n, rfl, hn⟩, q2⟩ := q1.cons
        obtain ⟨_, _, rfl, ⟨s, rfl, hs⟩, q3⟩ := q2.cons
        obtain ⟨_, _, rfl, ⟨xs, rfl, hx⟩, q4⟩ := q3.cons
        obtain rfl := q4.nil
        obtain ⟨l, rfl⟩ := lift_list (f := Tm.d) fun x h => by obtain ⟨t, h, _⟩ := hx x h; exact ⟨t, h⟩
        refine ⟨.mk k n s l, (Tm.d_mk _ _ _ _).symm, ?_⟩
        rw [Tm.d_mk]
        exact ⟨hk, hn, hs, D.wds_of fun x hm => by obtain ⟨t, rfl, h⟩ := hx x hm; exact h, trivial⟩
theorem read_TermS : Reads Try.prog 59 fun d => ∃ l : List Tm, d = .sl 4 (l.map Tm.d) ∧ D.wds (l.map Tm.d) := fun n =>
  (reads_sl ti59.kind (cellsOf_tt ti61) (fun d h => by obtain ⟨a, rfl, _⟩ := h; exact Tm.d_n a) read_Term n).weaken fun d h => by
    obtain ⟨xs, rfl, hx⟩ := h
    obtain ⟨l, rfl⟩ := lift_list (f := Tm.d) fun x h => by obtain ⟨t, h, _⟩ := hx x h; exact ⟨t, h⟩
    exact ⟨l, rfl, D.wds_of fun x hm => by obtain ⟨t, rfl, h⟩ := hx x hm; exact h⟩
theorem read_Binding : Reads Try.prog 107 fun d => ∃ b : Bd, d = b.d ∧ b.d.wd
  | 0 => ReadsTo.zero _
  | n + 1 => (reads_struct ti107 rfl (FieldsTo.cons ti3 (reads_int und_int n) (FieldsTo.cons ti61 (read_Term n) FieldsTo.nil))).weaken fun d h => by
    obtain ⟨ds, rfl, h⟩ := h
    obtain ⟨_, _, rfl, ⟨v, rfl, hv⟩, q1⟩ := h.cons
    obtain ⟨_, _, rfl, ⟨t, rfl, ht⟩, q2⟩ := q1.cons
    obtain rfl := q2.nil
    exact ⟨⟨v, t⟩, rfl, hv, ht, trivial⟩
theorem read_BindingS : Reads Try.prog 41 fun d => ∃ l : List Bd, d = .sl 5 (l.map Bd.d) ∧ D.wds (l.map Bd.d) := fun n =>
  (reads_sl ti41.kind (cellsOf_tt ti107) (fun d h => by obtain ⟨a, rfl, _⟩ := h; exact Bd.d_n a) read_Binding n).weaken fun d h => by
    obtain ⟨xs, rfl, hx⟩ := h
    obtain ⟨l, rfl⟩ := lift_list (f := Bd.d) fun x h => by obtain ⟨t, h, _⟩ := hx x h; exact ⟨t, h⟩
    exact ⟨l, rfl, D.wds_of fun x hm => by obtain ⟨t, rfl, h⟩ := hx x hm; exact h⟩
end Go.Vx

/- Terms, plain: shapes, sizes, variables. -/
namespace Go.Vx
open Go.Proofs Classical
def Str.nil : ByteArray := ⟨#[]⟩
/-- Terms that are well-formed. -/
inductive T where
  | nil
  | var (n : Int)
  | sym (s : ByteArray)
  | num (n : Int)
  | pair (a b : T)
def T.tm : T → Tm
  | .nil => .mk 0 0 ⟨#[]⟩ []
  | .var n => .mk 1 n ⟨#[]⟩ []
  | .sym s => .mk 2 0 s []
  | .num n => .mk 3 n ⟨#[]⟩ []
  | .pair a b => .mk 4 0 ⟨#[]⟩ [a.tm, b.tm]
def T.good : T → Prop
  | .nil => True
  | .var n => 0 ≤ n ∧ n ≤ 100000
  | .sym s => IsNm s
  | .num n => -1000000000 ≤ n ∧ n ≤ 1000000000
  | .pair a b => a.good ∧ b.good
def T.size : T → Nat
  | .pair a b => 1 + a.size + b.size
  | .nil => 1
  | .var _ => 1
  | .sym _ => 1
  | .num _ => 1
def T.vars : T → List Int
  | .var n => [n]
  | .pair a b => a.vars ++ b.vars
  | .nil => []
  | .sym _ => []
  | .num _ => []
def T.ok (x : T) : Prop := x.good ∧ x.size ≤ 5000
mutual
def Tm.cnt : Tm → Nat
  | .mk _ _ _ l => 1 + Tm.cnts l
def Tm.cnts : List Tm → Nat
  | [] => 0
  | t :: r => t.cnt + Tm.cnts r
end
def Tm.Sh (t : Tm) : Prop := ∃ x : T, x.good ∧ x.tm = t
def Tm.Ok (t : Tm) : Prop := t.Sh ∧ t.cnt ≤ 5000
theorem T.cnt_tm : ∀ x : T, x.tm.cnt = x.size
  | .nil => rfl
  | .var _ => rfl
  | .sym _ => rfl
  | .num _ => rfl
  | .pair a b => by simp [T.tm, Tm.cnt, Tm.cnts, T.size, T.cnt_tm a, T.cnt_tm b]; omega
theorem T.size_pos : ∀ x : T, 1 ≤ x.size
  | .nil => by simp [T.size]
  | .var _ => by simp [T.size]
  | .sym _ => by simp [T.size]
  | .num _ => by simp [T.size]
  | .pair a b => by simp [T.size]; omega
theorem Tm.cnt_pos (t : Tm) : 1 ≤ t.cnt := by cases t; simp [Tm.cnt]
theorem Tm.Ok.lift {t : Tm} (h : t.Ok) : ∃ x : T, x.ok ∧ t = x.tm := by
  obtain ⟨⟨x, h1, rfl⟩, h2⟩ := h
  rw [T.cnt_tm] at h2
  exact ⟨x, ⟨h1, h2⟩, rfl⟩
theorem T.ok.tm {x : T} (h : x.ok) : x.tm.Ok := ⟨⟨x, h.1, rfl⟩, by rw [T.cnt_tm]; exact h.2⟩
/-- What makes a shape well-formed. -/
theorem Tm.Sh_iff (k n : Int) (s : ByteArray) (l : List Tm) : (Tm.mk k n s l).Sh ↔
    (k = 0 ∧ n = 0 ∧ s = ⟨#[]⟩ ∧ l = []) ∨ (k = 1 ∧ 0 ≤ n ∧ n ≤ 100000 ∧ s = ⟨#[]⟩ ∧ l = []) ∨ (k = 2 ∧ n = 0 ∧ IsNm s ∧ l = []) ∨ (k = 3 ∧ -1000000000 ≤ n ∧ n ≤ 1000000000 ∧ s = ⟨#[]⟩ ∧ l = []) ∨
    (k = 4 ∧ n = 0 ∧ s = ⟨#[]⟩ ∧ ∃ a b, l = [a, b] ∧ a.Sh ∧ b.Sh) := by
  constructor
  · rintro ⟨x, hx, e⟩
    cases x <;> simp only [T.tm, Tm.mk.injEq] at e <;> obtain ⟨rfl, rfl, rfl, rfl⟩ := e <;> simp only [T.good] at hx
    · simp
    · right; left; simp [hx]
    · right; right; left; simp [hx]
    · right; right; right; left; simp [hx]
    · right; right; right; right
      exact ⟨rfl, rfl, rfl, _, _, rfl, ⟨_, hx.1, rfl⟩, ⟨_, hx.2, rfl⟩⟩
  · rintro (⟨rfl, rfl, rfl, rfl⟩ | ⟨rfl, h1, h2, rfl, rfl⟩ | ⟨rfl, rfl, h1, rfl⟩ | ⟨rfl, h1, h2, rfl, rfl⟩ | ⟨rfl, rfl, rfl, a, b, rfl, ⟨x, h1, rfl⟩, ⟨y, h2, rfl⟩⟩)
    · exact ⟨.nil, trivial, rfl⟩
    · exact ⟨.var n, ⟨h1, h2⟩, rfl⟩
    · exact ⟨.sym s, h1, rfl⟩
    · exact ⟨.num n, ⟨h1, h2⟩, rfl⟩
    · exact ⟨.pair x y, ⟨h1, h2⟩, rfl⟩
theorem Tm.Sh_iff' (k n : Int) (s : ByteArray) (l : List Tm) : (Tm.mk k n s l).Sh ↔
    (k = 0 ∧ n = 0 ∧ s = ⟨#[]⟩ ∧ l.length = 0) ∨ (k = 1 ∧ 0 ≤ n ∧ n ≤ 100000 ∧ s = ⟨#[]⟩ ∧ l.length = 0) ∨ (k = 2 ∧ n = 0 ∧ IsNm s ∧ l.length = 0) ∨ (k = 3 ∧ -1000000000 ≤ n ∧ n ≤ 1000000000 ∧ s = ⟨#[]⟩ ∧ l.length = 0) ∨
    (k = 4 ∧ n = 0 ∧ s = ⟨#[]⟩ ∧ l.length = 2 ∧ ∃ a b, l = [a, b] ∧ a.Sh ∧ b.Sh) := by
  have h0 : l.length = 0 ↔ l = [] := List.length_eq_zero_iff
  have h2 : (l.length = 2 ∧ ∃ a b, l = [a, b] ∧ a.Sh ∧ b.Sh) ↔ ∃ a b, l = [a, b] ∧ a.Sh ∧ b.Sh := ⟨fun h => h.2, fun h => ⟨by obtain ⟨a, b, rfl, _⟩ := h; rfl, h⟩⟩
  rw [Tm.Sh_iff, h0, h2]
/-- A shape is ill-formed, a test says. -/
theorem isF {p : Prop} {_ : Decidable p} (h : ¬ p) : Value.bool false = .bool (decide p) := by rw [decide_eq_false h]
theorem isT {p : Prop} {_ : Decidable p} (h : p) : Value.bool true = .bool (decide p) := by rw [decide_eq_true h]
theorem isI {p q : Prop} {_ : Decidable p} {_ : Decidable q} (h : p ↔ q) : Value.bool (decide p) = .bool (decide q) := by simp only [h]
theorem two_of {α : Type} : ∀ {l : List α}, ((l.length : Nat) : Int) = 2 → ∃ a b, l = [a, b]
  | [a, b], _ => ⟨a, b, rfl⟩
  | [], h => by simp at h
  | [_], h => by simp at h
  | _ :: _ :: _ :: _, h => by simp at h; omega
theorem T.tm_inj : ∀ {x y : T}, x.tm = y.tm → x = y
  | .nil, y, h => by cases y <;> simp_all [T.tm]
  | .var n, y, h => by cases y <;> simp_all [T.tm]
  | .sym s, y, h => by cases y <;> simp_all [T.tm]
  | .num n, y, h => by cases y <;> simp_all [T.tm]
  | .pair a b, y, h => by
    cases y <;> simp [T.tm] at h
    rw [T.tm_inj h.1, T.tm_inj h.2]
theorem lift_ok : ∀ {l : List Tm}, (∀ t ∈ l, t.Ok) → ∃ xs : List T, l = xs.map T.tm ∧ ∀ x ∈ xs, x.ok
  | [], _ => ⟨[], rfl, by simp⟩
  | t :: l, h => by
    obtain ⟨x, h1, rfl⟩ := (h t (by simp)).lift
    obtain ⟨xs, rfl, h2⟩ := lift_ok (l := l) fun t ht => h t (by simp [ht])
    exact ⟨x :: xs, rfl, by simp; exact ⟨h1, h2⟩⟩
end Go.Vx

/- Contracts: which terms are well-formed. -/
namespace Go.Vx
open Go.Proofs Classical
section
variable {μ : Mem}
theorem Tm.cnts_append : ∀ (a c : List Tm), Tm.cnts (a ++ c) = Tm.cnts a + Tm.cnts c
  | [], c => by simp [Tm.cnts]
  | d :: r, c => by simp [Tm.cnts, Tm.cnts_append r c, Nat.add_assoc]
theorem Tm.cnts_take {xs : List Tm} {j : Nat} {x : Tm} (h : xs[j]? = some x) : Tm.cnts (xs.take (j + 1)) = Tm.cnts (xs.take j) + x.cnt := by
  rw [List.take_add_one, h, Option.toList_some, Tm.cnts_append]; simp [Tm.cnts]
theorem Tm.cnts_le (xs : List Tm) (j : Nat) : Tm.cnts (xs.take j) ≤ Tm.cnts xs := by
  have := Tm.cnts_append (xs.take j) (xs.drop j)
  rw [List.take_append_drop] at this; omega
/-- 'l02Count': the nodes, or just above the bound. -/
def upTo (n most : Int) : Int := min n (max most 0 + 1)
theorem l02Count_spec : ∀ (t : Tm) {v : Value} {most : Int}, RepV μ t.d v → -1000000000000 ≤ most → most ≤ 1000000000000 → Gives Try.prog 195 [v, .int .i64 most] μ (.int .i64 (upTo t.cnt most)) :=
  Tm.ind fun k n s l ih v most hv h1 h2 => by
    obtain ⟨base, cap, rfl, hsl⟩ := Tm.inv hv
    have hn := maxLen_le hsl.max
    refine Spec.mk Try.func195 (by kernel_rfl) ?_
    intro r
    refine loop_intro (fun i : Nat => i ≤ l.length) (fun i => ⟨[(1, .val (.int .i64 most)), (5, .val (.int .i64 (upTo (1 + Tm.cnts (l.take i) : Nat) most))), (9, .val (.slice base l.length cap)), (10, .val (.int .i64 l.length)), (11, .val (.int .i64 i))], [], 1, μ, Mem.nil⟩) (fun i => l.length - i)
      0 (by omega) (fun i => ⟨rfl, rfl⟩) ⟨⟨rfl, by show some (SV.val (.int .i64 _)) = some (SV.val (.int .i64 _)); congr 3; simp [Tm.cnts, upTo]; omega, rfl, rfl, rfl, trivial⟩, trivial, rfl, rfl⟩ ?_
    intro i hi
    refine ifd (fun h => ?_) (fun h => ?_)
    · obtain ⟨t, ht⟩ := at_some (l := l) (i := i) (by omega)
      have hc := Tm.cnts_take ht
      have hc' := Tm.cnts_le l (i + 1)
      obtain ⟨ad, p, hel, hr⟩ := Tm.elem hsl ht
      refine elem_intro hel ?_
      intro r2
      refine ifd (fun h => ret_gives ?_ rfl) (fun h => ?_)
      · simp only [Tm.cnt, upTo] at h ⊢
        congr 1; omega
      · have hb : upTo (1 + Tm.cnts (l.take i) : Nat) most ≤ 1000000000001 ∧ 1 ≤ upTo (1 + Tm.cnts (l.take i) : Nat) most := by unfold upTo; omega
        refine num64 (by omega) (by omega) ?_
        refine call_gives (ih t (mem_at ht) hr (by omega) (by omega)) ?_
        refine num_eq (x := upTo (1 + Tm.cnts (l.take (i + 1)) : Nat) most) ?_ ?_
        · have hb2 : upTo (t.cnt : Int) (most - upTo (1 + Tm.cnts (l.take i) : Nat) most) ≤ 1000000000001 ∧ 1 ≤ upTo (t.cnt : Int) (most - upTo (1 + Tm.cnts (l.take i) : Nat) most) := by
            have := t.cnt_pos
            unfold upTo at hb h ⊢
            omega
          rw [wrap64 (by omega) (by omega), hc]
          unfold upTo at h ⊢; omega
        · exact num64 (by omega) (by omega) ⟨i + 1, by omega, by omega, ⟨⟨rfl, rfl, rfl, rfl, rfl, trivial⟩, trivial, rfl, rfl⟩⟩
    · obtain rfl : i = l.length := by omega
      rw [List.take_length]
      exact ret_gives rfl rfl
set_option maxRecDepth 20000 in
theorem l02Shape_spec : ∀ (t : Tm) {v : Value}, RepV μ t.d v → t.d.wd → Gives Try.prog 199 [v] μ (.bool (decide t.Sh)) :=
  Tm.ind fun k n s l ih v hv hw => by
    obtain ⟨base, cap, rfl, hsl⟩ := Tm.inv hv
    have hn := maxLen_le hsl.max
    rw [Tm.d_mk] at hw
    have hs : s.size ≤ maxLen := hw.2.2.1
    have hws := D.wds_mem (xs := l.map Tm.d) hw.2.2.2.1
    have hiff := Tm.Sh_iff' k n s l
    refine Spec.mk Try.func199 (by kernel_rfl) ?_
    intro r
    repeat' (first
      | refine ifd (fun h => ?_) (fun h => ?_)
      | refine ifnd (fun h => ?_) (fun h => ?_)
      | refine if_intro (fun h => ?_) (fun h => ?_))
    all_goals first
      | (exfalso; clear ih hsl hv hw hws hiff; first | omega | contradiction)
      | (refine ret_gives (isF fun hS => ?_) rfl; clear ih hsl hv hw hws; rcases hiff.1 hS with ⟨e1, e2, e3, e4⟩ | ⟨e1, e2, e3, e4, e5⟩ | ⟨e1, e2, e3, e4⟩ | ⟨e1, e2, e3, e4, e5⟩ | ⟨e1, e2, e3, e4, e5⟩ <;> first | omega | contradiction | (subst_vars; contradiction))
      | (refine ret_gives (isT (hiff.2 (.inl ⟨?_, ?_, ?_, ?_⟩))) rfl <;> first | omega | assumption)
      | (refine call_gives (l01In_spec _ _ _ _) (ret_gives (isI (p := (0 : Int) ≤ n ∧ n ≤ 100000) (hiff.trans ⟨fun hh => ?_, fun hh => .inr (.inl ⟨by omega, hh.1, hh.2, by assumption, by omega⟩)⟩).symm) rfl); rcases hh with ⟨e1, e2, e3, e4⟩ | ⟨e1, e2, e3, e4, e5⟩ | ⟨e1, e2, e3, e4⟩ | ⟨e1, e2, e3, e4, e5⟩ | ⟨e1, e2, e3, e4, e5⟩ <;> first | omega | exact ⟨by omega, by omega⟩)
      | (refine call_gives (l01In_spec _ _ _ _) (ret_gives (isI (p := (-1000000000 : Int) ≤ n ∧ n ≤ 1000000000) (hiff.trans ⟨fun hh => ?_, fun hh => .inr (.inr (.inr (.inl ⟨by omega, hh.1, hh.2, by assumption, by omega⟩)))⟩).symm) rfl); rcases hh with ⟨e1, e2, e3, e4⟩ | ⟨e1, e2, e3, e4, e5⟩ | ⟨e1, e2, e3, e4⟩ | ⟨e1, e2, e3, e4, e5⟩ | ⟨e1, e2, e3, e4, e5⟩ <;> first | omega | exact ⟨by omega, by omega⟩)
      | (refine call_gives (spec_IsName_spec s hs _) (ret_gives (isI (p := IsNm s) (hiff.trans ⟨fun hh => ?_, fun hh => .inr (.inr (.inl ⟨by omega, by omega, hh, by omega⟩))⟩).symm) rfl); rcases hh with ⟨e1, e2, e3, e4⟩ | ⟨e1, e2, e3, e4, e5⟩ | ⟨e1, e2, e3, e4⟩ | ⟨e1, e2, e3, e4, e5⟩ | ⟨e1, e2, e3, e4, e5⟩ <;> first | omega | assumption)
      | skip
    have h2 := h
    obtain ⟨a, b, rfl⟩ := two_of h2
    obtain ⟨ad, p, hel, hra⟩ := Tm.elem (i := 0) hsl rfl
    obtain ⟨ad', p', hel', hrb⟩ := Tm.elem (i := 1) hsl rfl
    refine elem_intro hel (call_gives (ih a (by simp) hra (hws _ (by simp))) ?_)
    refine if_intro (fun h => ?_) (fun h => ?_)
    · refine elem_intro hel' (call_gives (ih b (by simp) hrb (hws _ (by simp))) (ret_gives (isI (hiff.trans ⟨fun hh => ?_, fun hh => ?_⟩).symm) rfl))
      · rcases hh with ⟨e1, e2, e3, e4⟩ | ⟨e1, e2, e3, e4, e5⟩ | ⟨e1, e2, e3, e4⟩ | ⟨e1, e2, e3, e4, e5⟩ | ⟨e1, e2, e3, e4, e5⟩ <;> first | omega | (obtain ⟨a', b', e, e6, e7⟩ := e5; cases e; assumption)
      · exact .inr (.inr (.inr (.inr ⟨by omega, by omega, by assumption, rfl, a, b, rfl, of_decide_eq_true h, hh⟩)))
    · refine ret_gives (isF fun hh => ?_) rfl
      replace hh := hiff.1 hh
      rcases hh with ⟨e1, e2, e3, e4⟩ | ⟨e1, e2, e3, e4, e5⟩ | ⟨e1, e2, e3, e4⟩ | ⟨e1, e2, e3, e4, e5⟩ | ⟨e1, e2, e3, e4, e5⟩ <;> first | omega | (obtain ⟨a', b', e, e6, e7⟩ := e5; cases e; exact absurd e6 (of_decide_eq_false h))
/-- 'nodesOf': the nodes of a well-formed term that fits; else -1. -/
noncomputable def Tm.nodes (t : Tm) (room : Int) : Int := if t.Sh ∧ (t.cnt : Int) ≤ room then t.cnt else -1
theorem Tm.nodes_neg {t : Tm} {room : Int} (h : ¬ (t.Sh ∧ (t.cnt : Int) ≤ room)) : Value.int .i64 (-1) = .int .i64 (t.nodes room) := by rw [Tm.nodes, if_neg h]
theorem Tm.nodes_pos {t : Tm} {room : Int} (h : t.Sh) (h2 : (t.cnt : Int) ≤ room) : t.nodes room = t.cnt := by rw [Tm.nodes, if_pos ⟨h, h2⟩]
theorem Tm.nodes_lt {t : Tm} {room : Int} (h : t.nodes room < 0) : ¬ (t.Sh ∧ (t.cnt : Int) ≤ room) := fun k => by rw [Tm.nodes, if_pos k] at h; omega
theorem Tm.nodes_ge {t : Tm} {room : Int} (h : ¬ t.nodes room < 0) : t.Sh ∧ (t.cnt : Int) ≤ room ∧ t.nodes room = t.cnt := by
  by_cases k : t.Sh ∧ (t.cnt : Int) ≤ room
  · exact ⟨k.1, k.2, by rw [Tm.nodes, if_pos k]⟩
  · rw [Tm.nodes, if_neg k] at h; omega
set_option maxRecDepth 20000 in
theorem nodesOf_spec : ∀ (t : Tm) {v : Value} {room : Int}, RepV μ t.d v → -1000000000000 ≤ room → room ≤ 1000000000000 → Gives Try.prog 150 [v, .int .i64 room] μ (.int .i64 (t.nodes room)) :=
  Tm.ind fun k n s l ih v room hv hr1 hr2 => by
    obtain ⟨base, cap, rfl, hsl⟩ := Tm.inv hv
    have hn := maxLen_le hsl.max
    have hiff := Tm.Sh_iff' k n s l
    have hone : l.length = 0 → (Tm.mk k n s l).cnt = 1 := fun h => by
      obtain rfl := List.eq_nil_of_length_eq_zero h
      rfl
    have hpos := Tm.cnt_pos (.mk k n s l)
    refine Spec.mk Try.func150 (by kernel_rfl) ?_
    intro r
    refine ifd (fun h0 => ret_gives (Tm.nodes_neg fun hh => by omega) rfl) (fun h0 => ?_)
    have hgood : (Tm.mk k n s l).Sh → l.length = 0 → Value.int .i64 1 = .int .i64 ((Tm.mk k n s l).nodes room) := fun h1 h2 => by
      have := hone h2
      rw [Tm.nodes_pos h1 (by omega), this]; rfl
    refine ifnd (fun hk => ?_) (fun hk => ?_)
    · repeat' (first
        | refine ifd (fun h => ?_) (fun h => ?_)
        | refine ifnd (fun h => ?_) (fun h => ?_)
        | refine if_intro (fun h => ?_) (fun h => ?_)
        | refine call_gives (impl_IsName_spec s _) ?_)
      all_goals first
        | (exfalso; clear ih hsl hv hiff; first | omega | contradiction)
        | (refine ret_gives (Tm.nodes_neg fun hS => ?_) rfl; have hh := hiff.1 hS.1; clear ih hsl hv; rcases hh with ⟨e1, e2, e3, e4⟩ | ⟨e1, e2, e3, e4, e5⟩ | ⟨e1, e2, e3, e4⟩ | ⟨e1, e2, e3, e4, e5⟩ | ⟨e1, e2, e3, e4, e5⟩ <;> first | omega | contradiction | (subst_vars; contradiction))
        | (refine ret_gives (hgood (hiff.2 (.inl ⟨?_, ?_, ?_, ?_⟩)) (by omega)) rfl <;> first | omega | assumption; done)
        | (refine ret_gives (hgood (hiff.2 (.inr (.inl ⟨?_, ?_, ?_, ?_, ?_⟩))) (by omega)) rfl <;> first | omega | assumption; done)
        | (refine ret_gives (hgood (hiff.2 (.inr (.inr (.inl ⟨?_, ?_, ?_, ?_⟩)))) (by omega)) rfl <;> first | omega | assumption; done)
        | (refine ret_gives (hgood (hiff.2 (.inr (.inr (.inr (.inl ⟨?_, ?_, ?_, ?_, ?_⟩))))) (by omega)) rfl <;> first | omega | assumption; done)
        | trace_state
    · refine ifnd (fun h1 => ?_) (fun h1 => ?_)
      · refine ret_gives (Tm.nodes_neg fun hS => ?_) rfl; have hh := hiff.1 hS.1; clear ih hsl hv
        rcases hh with ⟨e1, e2, e3, e4⟩ | ⟨e1, e2, e3, e4, e5⟩ | ⟨e1, e2, e3, e4⟩ | ⟨e1, e2, e3, e4, e5⟩ | ⟨e1, e2, e3, e4, e5⟩ <;> omega
      refine ifnd (fun h2 => ?_) (fun h2 => ?_)
      · refine ret_gives (Tm.nodes_neg fun hS => ?_) rfl; have hh := hiff.1 hS.1; clear ih hsl hv
        rcases hh with ⟨e1, e2, e3, e4⟩ | ⟨e1, e2, e3, e4, e5⟩ | ⟨e1, e2, e3, e4⟩ | ⟨e1, e2, e3, e4, e5⟩ | ⟨e1, e2, e3, e4, e5⟩ <;> first | omega | contradiction
      refine ifnd (fun h3 => ?_) (fun h3 => ?_)
      · refine ret_gives (Tm.nodes_neg fun hS => ?_) rfl; have hh := hiff.1 hS.1; clear ih hsl hv
        rcases hh with ⟨e1, e2, e3, e4⟩ | ⟨e1, e2, e3, e4, e5⟩ | ⟨e1, e2, e3, e4⟩ | ⟨e1, e2, e3, e4, e5⟩ | ⟨e1, e2, e3, e4, e5⟩ <;> omega
      obtain ⟨a, b, rfl⟩ := two_of h3
      have hcnt : (Tm.mk k n s [a, b]).cnt = 1 + a.cnt + b.cnt := by simp [Tm.cnt, Tm.cnts]; omega
      have hsh : (Tm.mk k n s [a, b]).Sh → a.Sh ∧ b.Sh := fun hS => by
        have hh := hiff.1 hS
        rcases hh with ⟨e1, e2, e3, e4⟩ | ⟨e1, e2, e3, e4, e5⟩ | ⟨e1, e2, e3, e4⟩ | ⟨e1, e2, e3, e4, e5⟩ | ⟨e1, e2, e3, e4, e5⟩ <;> first | omega | (obtain ⟨a', b', e, e6, e7⟩ := e5; cases e; exact ⟨e6, e7⟩)
      obtain ⟨ad, p, hel, hra⟩ := Tm.elem (i := 0) hsl rfl
      obtain ⟨ad', p', hel', hrb⟩ := Tm.elem (i := 1) hsl rfl
      refine elem_intro hel (num64 (by omega) (by omega) (call_gives (ih a (by simp) hra (by omega) (by omega)) ?_))
      refine ifd (fun h4 => ?_) (fun h4 => ?_)
      · have := Tm.nodes_lt h4
        refine ret_gives (Tm.nodes_neg fun hS => this ⟨(hsh hS.1).1, ?_⟩) rfl
        have := hS.2; rw [hcnt] at this; omega
      obtain ⟨g1, g2, g3⟩ := Tm.nodes_ge h4
      have := a.cnt_pos
      refine elem_intro hel' (num64 (by omega) (by omega) (num64 (by omega) (by omega) (call_gives (ih b (by simp) hrb (by omega) (by omega)) ?_)))
      refine ifd (fun h5 => ?_) (fun h5 => ?_)
      · have := Tm.nodes_lt h5
        refine ret_gives (Tm.nodes_neg fun hS => this ⟨(hsh hS.1).2, ?_⟩) rfl
        have := hS.2; rw [hcnt] at this; omega
      obtain ⟨g4, g5, g6⟩ := Tm.nodes_ge h5
      refine num64 (by omega) (by omega) (num64 (by omega) (by omega) (ret_gives ?_ rfl))
      rw [Tm.nodes_pos (hiff.2 (.inr (.inr (.inr (.inr ⟨by omega, by omega, by assumption, rfl, a, b, rfl, g1, g4⟩))))) (by rw [hcnt]; omega), hcnt]
      congr 1; omega
end
end Go.Vx

/- Contracts: well-formed terms, lists of them; ground terms. -/
namespace Go.Vx
open Go.Proofs Classical
section
variable {μ : Mem}
theorem Tm.v_eq {t : Tm} {v : Value} (h : RepV μ t.d v) : ∃ p : Option Addr × Nat, v = .agg #[.int .i64 t.kind, .int .i64 t.num, .string t.name, .slice p.1 t.args.length p.2] := Tm.invV h
theorem spec_TermOk_spec (t : Tm) {v : Value} (hv : RepV μ t.d v) (hw : t.d.wd) : Gives Try.prog 149 [v] μ (.bool (decide t.Ok)) := by
  obtain ⟨p, rfl⟩ := Tm.invV hv
  refine Spec.mk Try.func149 (by kernel_rfl) ?_
  intro r
  refine call_gives (l02Count_spec t hv (by decide) (by decide)) ?_
  refine ifd (fun h => ?_) (fun h => ret_gives (isF fun hh => ?_) rfl)
  · refine call_gives (l02Shape_spec t hv hw) (ret_gives (isI ⟨fun hh => ⟨hh, ?_⟩, fun hh => hh.1⟩) rfl)
    unfold upTo at h; omega
  · have := hh.2; unfold upTo at h; omega
theorem impl_TermOk_spec (t : Tm) {v : Value} (hv : RepV μ t.d v) : Gives Try.prog 92 [v] μ (.bool (decide t.Ok)) := by
  obtain ⟨p, rfl⟩ := Tm.invV hv
  refine Spec.mk Try.func92 (by kernel_rfl) ?_
  intro r
  refine call_gives (nodesOf_spec t hv (by decide) (by decide)) (ret_gives (isI ⟨fun hh => ?_, fun hh => ?_⟩) rfl)
  · obtain ⟨h1, h2, _⟩ := Tm.nodes_ge (by omega : ¬ t.nodes 5000 < 0)
    exact ⟨h1, by omega⟩
  · rw [Tm.nodes_pos hh.1 (by have := hh.2; omega)]
    have := t.cnt_pos; omega
theorem l02AllOk_spec {l : List Tm} {base : Option Addr} {cap : Nat} (hsl : Sl μ 4 base l.length (l.map Tm.d)) (hw : D.wds (l.map Tm.d)) : Gives Try.prog 214 [.slice base l.length cap] μ (.bool (decide (∀ t ∈ l, t.Ok))) := by
    have hn := maxLen_le hsl.max
    refine Spec.mk Try.func214 (by kernel_rfl) ?_
    refine loop_intro (fun i : Nat => i ≤ l.length ∧ ∀ t ∈ l.take i, t.Ok) (fun i => ⟨[(5, .val (.slice base l.length cap)), (6, .val (.int .i64 l.length)), (7, .val (.int .i64 i))], [], 0, μ, Mem.nil⟩) (fun i => l.length - i)
      0 ⟨by omega, by simp⟩ (fun i => ⟨rfl, rfl⟩) ⟨⟨rfl, rfl, rfl, trivial⟩, trivial, rfl, rfl⟩ ?_
    rintro i ⟨hi, hall⟩
    refine ifd (fun h => ?_) (fun h => ?_)
    · obtain ⟨t, ht⟩ := at_some (l := l) (i := i) (by omega)
      obtain ⟨ad, p, hel, hr⟩ := Tm.elem hsl ht
      refine elem_intro hel ?_
      intro r
      refine call_gives (spec_TermOk_spec t hr (D.wds_mem hw _ (mem_at (at_map (f := Tm.d) ht)))) ?_
      refine ifnd (fun h => ret_gives (isF fun hh => h (hh t (mem_at ht))) rfl) (fun h => ?_)
      refine num64 (by omega) (by omega) ⟨i + 1, ⟨by omega, fun x hx => ?_⟩, by omega, ⟨⟨rfl, rfl, rfl, trivial⟩, trivial, rfl, rfl⟩⟩
      rw [List.take_add_one, ht, Option.toList_some, List.mem_append, List.mem_singleton] at hx
      rcases hx with hx | rfl
      · exact hall x hx
      · exact h
    · obtain rfl : i = l.length := by omega
      rw [List.take_length] at hall
      exact ret_gives (isT hall) rfl
theorem termsOk_spec {l : List Tm} {base : Option Addr} {cap : Nat} (hsl : Sl μ 4 base l.length (l.map Tm.d)) : Gives Try.prog 174 [.slice base l.length cap] μ (.bool (decide (∀ t ∈ l, t.Ok))) := by
    have hn := maxLen_le hsl.max
    refine Spec.mk Try.func174 (by kernel_rfl) ?_
    refine loop_intro (fun i : Nat => i ≤ l.length ∧ ∀ t ∈ l.take i, t.Ok) (fun i => ⟨[(5, .val (.slice base l.length cap)), (6, .val (.int .i64 l.length)), (7, .val (.int .i64 i))], [], 0, μ, Mem.nil⟩) (fun i => l.length - i)
      0 ⟨by omega, by simp⟩ (fun i => ⟨rfl, rfl⟩) ⟨⟨rfl, rfl, rfl, trivial⟩, trivial, rfl, rfl⟩ ?_
    rintro i ⟨hi, hall⟩
    refine ifd (fun h => ?_) (fun h => ?_)
    · obtain ⟨t, ht⟩ := at_some (l := l) (i := i) (by omega)
      obtain ⟨ad, p, hel, hr⟩ := Tm.elem hsl ht
      refine elem_intro hel ?_
      intro r
      refine call_gives (impl_TermOk_spec t hr) ?_
      refine ifnd (fun h => ret_gives (isF fun hh => h (hh t (mem_at ht))) rfl) (fun h => ?_)
      refine num64 (by omega) (by omega) ⟨i + 1, ⟨by omega, fun x hx => ?_⟩, by omega, ⟨⟨rfl, rfl, rfl, trivial⟩, trivial, rfl, rfl⟩⟩
      rw [List.take_add_one, ht, Option.toList_some, List.mem_append, List.mem_singleton] at hx
      rcases hx with hx | rfl
      · exact hall x hx
      · exact h
    · obtain rfl : i = l.length := by omega
      rw [List.take_length] at hall
      exact ret_gives (isT hall) rfl
end
end Go.Vx

/- Contracts: the variables of a term, visited in order; ground terms. -/
namespace Go.Vx
open Go.Proofs Classical
theorem box_at {μ : Mem} {r : Nat} {x : Value} {ty : TypeId} (h : μ r = some (.cells #[x] ty (0, 0))) : ∀ j v, [x][j]? = some v → μ.cell ((⟨r, 0, none⟩ : Addr).add j) = some v := fun j v hj => by
  match j, hj with
  | 0, hj => cases hj; simp [Mem.cell, Addr.add_lit', h]
section
variable {μ : Mem}
/-- The parts of a pair. -/
theorem T.parts {a b : T} {base : Option Addr} {n : Nat} (h : Sl μ 4 base n ([a.tm, b.tm].map Tm.d)) : ∃ ad ad', ∃ p p' : Option Addr × Nat, ElemAt μ base n 4 ((0 : Nat) : Int) ad (a.tm.cs p) ∧ ElemAt μ base n 4 ((1 : Nat) : Int) ad' (b.tm.cs p') ∧ RepV μ a.tm.d (.agg (a.tm.cs p).toArray) ∧ RepV μ b.tm.d (.agg (b.tm.cs p').toArray) := by
  obtain ⟨ad, p, h1, h2⟩ := Tm.elem (i := 0) h rfl
  obtain ⟨ad', p', h3, h4⟩ := Tm.elem (i := 1) h rfl
  exact ⟨ad, ad', p, p', h1, h3, h2, h4⟩
theorem eachVar_spec {S : Type} (hp : S → Mem) (step : S → Int → S) {k : FuncId} {caps : List Value} {Q : Int → Prop}
    (hc : ∀ s n, Q n → SpecH Try.prog k (.int .i64 n :: caps) μ (hp s) fun r μ' h' => r = .tuple #[] ∧ μ' = μ ∧ h' = hp (step s n)) :
    ∀ (x : T) {v : Value} (s : S), RepV μ x.tm.d v → (∀ n ∈ x.vars, Q n) → SpecH Try.prog 128 [v, .func (.func k) #[] caps.toArray] μ (hp s) fun r μ' h' => r = .tuple #[] ∧ μ' = μ ∧ h' = hp (x.vars.foldl step s)
  | .var n, v, s, hv, hq => by
    obtain ⟨base, cap, rfl, hsl⟩ := Tm.inv hv
    refine SpecH.mk [] Try.func128 (by kernel_rfl) ?_
    intro r
    refine ifd (fun _ => ?_) (fun h => absurd rfl h)
    refine call_own (hc s n (hq n (by simp [T.vars]))) fun v μ' h' hle hap hR => ?_
    obtain ⟨rfl, rfl, rfl⟩ := hR
    refine ifd (fun h => absurd h (by decide)) (fun _ => ?_)
    exact ret_plain ⟨rfl, rfl, rfl⟩
  | .nil, v, s, hv, hq => by
    obtain ⟨base, cap, rfl, hsl⟩ := Tm.inv hv
    refine SpecH.mk [] Try.func128 (by kernel_rfl) ?_
    intro r
    refine ifd (fun h => absurd h (by decide)) (fun _ => ?_)
    refine ifd (fun h => absurd h (by decide)) (fun _ => ?_)
    exact ret_plain ⟨rfl, rfl, rfl⟩
  | .sym _, v, s, hv, hq => by
    obtain ⟨base, cap, rfl, hsl⟩ := Tm.inv hv
    refine SpecH.mk [] Try.func128 (by kernel_rfl) ?_
    intro r
    refine ifd (fun h => absurd h (by decide)) (fun _ => ?_)
    refine ifd (fun h => absurd h (by decide)) (fun _ => ?_)
    exact ret_plain ⟨rfl, rfl, rfl⟩
  | .num _, v, s, hv, hq => by
    obtain ⟨base, cap, rfl, hsl⟩ := Tm.inv hv
    refine SpecH.mk [] Try.func128 (by kernel_rfl) ?_
    intro r
    refine ifd (fun h => absurd h (by decide)) (fun _ => ?_)
    refine ifd (fun h => absurd h (by decide)) (fun _ => ?_)
    exact ret_plain ⟨rfl, rfl, rfl⟩
  | .pair a b, v, s, hv, hq => by
    obtain ⟨base, cap, rfl, hsl⟩ := Tm.inv hv
    obtain ⟨ad, ad', p, p', h1, h2, hra, hrb⟩ := T.parts hsl
    refine SpecH.mk [] Try.func128 (by kernel_rfl) ?_
    intro r
    refine ifd (fun h => absurd h (by decide)) (fun _ => ?_)
    refine ifd (fun _ => ?_) (fun h => absurd rfl h)
    refine elem_intro h1 (call_own (eachVar_spec hp step hc a s hra fun n hn => hq n (by simp [T.vars, hn])) fun v μ' h' hle hap hR => ?_)
    obtain ⟨rfl, e2, rfl⟩ := hR
    obtain rfl := e2.symm
    refine elem_intro h2 (call_own (eachVar_spec hp step hc b _ hrb fun n hn => hq n (by simp [T.vars, hn])) fun v μ' h' hle hap hR => ?_)
    obtain ⟨rfl, e2, rfl⟩ := hR
    obtain rfl := e2.symm
    exact ret_plain ⟨rfl, rfl, by simp [T.vars]⟩
/-- A cell of one's own that a closure turns. -/
def boolAt (r : Nat) (b : Bool) : Mem := Mem.nil.set r (.cells #[.bool b] 4 (0, 0))
theorem set_nil (r : Nat) (o o' : Obj) : (Mem.nil.set r o).set r o' = Mem.nil.set r o' := Mem.set_set _ _ _ _
theorem set_self (h : Mem) (r : Nat) (o : Obj) : h.set r o r = some o := by simp [Mem.set_get]
end
end Go.Vx

/- Contracts: sets of numbers; the variables of a term as the reference lists them. -/
namespace Go.Vx
open Go.Proofs Classical
def ints (l : List Int) : List Value := l.map fun n => .int .i64 n
theorem ints_flat : ∀ l : List Int, (ints l).flatMap vcells = ints l
  | [] => rfl
  | n :: l => by
    have := ints_flat l
    simp only [ints] at this ⊢
    simp [this, vcells]
section
variable {μ : Mem}
theorem Ints.elem {l : List Int} {base : Option Addr} {n : Nat} (h : Sl μ 1 base n (l.map D.i)) {i : Nat} {x : Int} (hx : l[i]? = some x) : ∃ ad, ElemAt μ base n 1 i ad [.int .i64 x] := by
  obtain ⟨ad, cs, h1, h2⟩ := h.get i (.i x) (by simp [hx])
  have h2 : cs = [.int .i64 x] := h2
  subst h2
  exact ⟨ad, h1⟩
theorem Ints.rows : ∀ l : List Int, Rows μ 1 (l.map D.i) (ints l)
  | [] => .nil
  | n :: l => .cons (show RepV μ (.i n) (.int .i64 n) from rfl) rfl (Ints.rows l)
theorem Ints.sl {b : Option Nat} {cap : Nat} {l : List Int} (h : RowAt μ b cap 1 (ints l)) (hm : l.length ≤ maxLen) : RepV μ (.sl 1 (l.map D.i)) (.slice (b.map fun r => ⟨r, 0, none⟩) (ints l).length cap) :=
  Rows.sl h (Ints.rows l) (by simpa [ints] using hm)
theorem Ints.src {l : List Int} {base : Option Addr} (h : Sl μ 1 base l.length (l.map D.i)) {a b cap : Nat} (hab : a ≤ b) (hb : b ≤ l.length) (hc : l.length ≤ cap) : SrcAt μ (if cap = a then base else base.map (·.add (a * 1))) (b - a) 1 (ints ((l.drop a).take (b - a))) := by
  refine ⟨by simp [ints]; omega, fun y hy => ?_, ?_⟩
  · obtain ⟨n, _, rfl⟩ := List.mem_map.1 hy
    exact ⟨rfl, fun u hu => by simp [vcells] at hu; subst hu; rfl⟩
  · rcases Nat.eq_or_lt_of_le hab with h0 | h0
    · exact .inl (by omega)
    · right
      obtain ⟨x, hx⟩ := at_some (l := l) (i := a) (by omega)
      obtain ⟨_, hel⟩ := Ints.elem h hx
      obtain ⟨a0, e, _⟩ := hel.addr
      refine ⟨a0.add (a * 1), by rw [if_neg (by omega), e]; rfl, fun j v hj => ?_⟩
      rw [ints_flat] at hj
      simp only [ints, List.getElem?_map] at hj
      obtain ⟨y, hy, rfl⟩ := Option.map_eq_some_iff.1 hj
      rw [List.getElem?_take] at hy
      split at hy
      · rw [List.getElem?_drop] at hy
        obtain ⟨ad, hel2⟩ := Ints.elem h hy
        obtain ⟨a1, e1, e2⟩ := hel2.addr
        rw [e] at e1
        cases e1
        have := hel2.cell 0 _ rfl
        rw [e2, add_add] at this
        rw [add_add]
        rw [← this]
        congr 2
        simp
        omega
      · cases hy
def insInt (l : List Int) (n : Int) (k : Nat) : List Int := l.take k ++ ([n] ++ l.drop k)
theorem insInt_mem (l : List Int) (n : Int) (k : Nat) (x : Int) : x ∈ insInt l n k ↔ x = n ∨ x ∈ l := by
  have := List.take_append_drop k l
  have h2 : x ∈ l ↔ x ∈ l.take k ∨ x ∈ l.drop k := by rw [← List.mem_append, this]
  simp only [insInt, List.mem_append, List.mem_singleton, h2]
  constructor
  · rintro (h | h | h) <;> simp [h]
  · rintro (h | h | h) <;> simp [h]
/-- A list of numbers, out of an insertion. -/
def InsOf (μ' : Mem) (l : List Int) (n : Int) (v : Value) : Prop := ∃ r : List Int, RepV μ' (.sl 1 (r.map D.i)) v ∧ (∀ x, x ∈ r ↔ x = n ∨ x ∈ l) ∧ r.length ≤ l.length + 1
theorem l02Insert_spec {l : List Int} {v : Value} {n : Int} (hv : RepV μ (.sl 1 (l.map D.i)) v) (hb : l.length ≤ 1000000000) : Spec Try.prog 193 [v, .int .i64 n] μ fun v μ' => InsOf μ' l n v := by
  obtain ⟨base, cap, rfl, hsl⟩ := Rep.sl hv
  have hcap := Rep.lens hv
  rw [List.length_map] at hsl hcap hv ⊢
  refine Spec.mk Try.func193 (by kernel_rfl) ?_
  refine loop_intro (fun k : Nat => k ≤ l.length) (fun k => ⟨[(0, .val (.slice base l.length cap)), (1, .val (.int .i64 n)), (5, .val (.int .i64 k))], [], 0, μ, Mem.nil⟩) (fun k => k)
    l.length (Nat.le_refl _) (fun i => ⟨rfl, rfl⟩) ⟨⟨rfl, rfl, rfl, trivial⟩, trivial, rfl, rfl⟩ ?_
  intro k hk
  refine ifd (fun h1 => ?_) (fun h1 => ?_)
  · obtain ⟨x, hx⟩ := at_some (l := l) (i := k - 1) (by omega)
    obtain ⟨ad, hel⟩ := Ints.elem hsl hx
    refine num_eq (x := ((k - 1 : Nat) : Int)) (by rw [wrap64 (by omega) (by omega)]; omega) ?_
    refine elem_intro hel ?_
    refine ifd (fun h2 => ?_) (fun h2 => ?_)
    · exact num_eq (x := ((k - 1 : Nat) : Int)) (by rw [wrap64 (by omega) (by omega)]; omega) ⟨k - 1, by omega, by omega, ⟨⟨rfl, rfl, rfl, trivial⟩, trivial, rfl, rfl⟩⟩
    · refine ifd (fun h3 => ?_) (fun h3 => ?_)
      · obtain ⟨y, hy⟩ := at_some (l := l) (i := k) (by omega)
        obtain ⟨ad2, hel2⟩ := Ints.elem hsl hy
        refine elem_intro hel2 ?_
        refine ifd (fun h4 => ret_plain ⟨l, hv, fun x => ⟨.inr, fun hx => hx.elim (fun e => by rw [e, ← h4]; exact mem_at hy) id⟩, by omega⟩) (fun h4 => ?_)
        intro r0
        refine cut_intro 0 k rfl rfl (by omega) (by omega) ?_
        refine src_intro _ (Ints.src hsl (a := 0) (b := k) (by omega) hk hcap) ?_
        refine grow_intro ?_ ?_ fun b1 c1 _ => ?_
        · show (0 + (ints _).length) * 8 ≤ _; simp [ints]; omega
        · show 0 + (ints _).length ≤ 9223372036854775807; simp [ints]; omega
        intro r1
        refine grow_intro ?_ ?_ fun b2 c2 _ => ?_
        · show (([] ++ ints _).length + 1) * 8 ≤ _; simp [ints]; omega
        · show ([] ++ ints _).length + 1 ≤ 9223372036854775807; simp [ints]; omega
        refine cut_intro k l.length rfl rfl hk (by omega) ?_
        refine src_intro _ (Ints.src hsl (a := k) (b := l.length) hk (Nat.le_refl _) hcap) ?_
        refine grow_intro ?_ ?_ fun b3 c3 _ => ?_
        · show (([] ++ ints _ ++ [_]).length + (ints _).length) * 8 ≤ _; simp [ints]; omega
        · show ([] ++ ints _ ++ [_]).length + (ints _).length ≤ 9223372036854775807; simp [ints]; omega
        refine ret_frz [0] fun μ' hle hno hrow => .inl ⟨insInt l n k, ?_, insInt_mem l n k, ?_⟩
        · have e : [] ++ ints ((l.drop 0).take (k - 0)) ++ [.int .i64 n] ++ ints ((l.drop k).take (l.length - k)) = ints (insInt l n k) := by
            simp [ints, insInt]
            rw [List.take_of_length_le (by simp)]
          rw [e] at hrow ⊢
          exact Ints.sl hrow (Nat.le_trans (m := 2000000000) (by simp [insInt]; omega) (by decide))
        · simp [insInt]; omega
      · intro r0
        refine cut_intro 0 k rfl rfl (by omega) (by omega) ?_
        refine src_intro _ (Ints.src hsl (a := 0) (b := k) (by omega) hk hcap) ?_
        refine grow_intro ?_ ?_ fun b1 c1 _ => ?_
        · show (0 + (ints _).length) * 8 ≤ _; simp [ints]; omega
        · show 0 + (ints _).length ≤ 9223372036854775807; simp [ints]; omega
        intro r1
        refine grow_intro ?_ ?_ fun b2 c2 _ => ?_
        · show (([] ++ ints _).length + 1) * 8 ≤ _; simp [ints]; omega
        · show ([] ++ ints _).length + 1 ≤ 9223372036854775807; simp [ints]; omega
        refine cut_intro k l.length rfl rfl hk (by omega) ?_
        refine src_intro _ (Ints.src hsl (a := k) (b := l.length) hk (Nat.le_refl _) hcap) ?_
        refine grow_intro ?_ ?_ fun b3 c3 _ => ?_
        · show (([] ++ ints _ ++ [_]).length + (ints _).length) * 8 ≤ _; simp [ints]; omega
        · show ([] ++ ints _ ++ [_]).length + (ints _).length ≤ 9223372036854775807; simp [ints]; omega
        refine ret_frz [0] fun μ' hle hno hrow => .inl ⟨insInt l n k, ?_, insInt_mem l n k, ?_⟩
        · have e : [] ++ ints ((l.drop 0).take (k - 0)) ++ [.int .i64 n] ++ ints ((l.drop k).take (l.length - k)) = ints (insInt l n k) := by
            simp [ints, insInt]
            rw [List.take_of_length_le (by simp)]
          rw [e] at hrow ⊢
          exact Ints.sl hrow (Nat.le_trans (m := 2000000000) (by simp [insInt]; omega) (by decide))
        · simp [insInt]; omega
  · refine ifd (fun h3 => ?_) (fun h3 => ?_)
    · obtain ⟨y, hy⟩ := at_some (l := l) (i := k) (by omega)
      obtain ⟨ad2, hel2⟩ := Ints.elem hsl hy
      refine elem_intro hel2 ?_
      refine ifd (fun h4 => ret_plain ⟨l, hv, fun x => ⟨.inr, fun hx => hx.elim (fun e => by rw [e, ← h4]; exact mem_at hy) id⟩, by omega⟩) (fun h4 => ?_)
      intro r0
      refine cut_intro 0 k rfl rfl (by omega) (by omega) ?_
      refine src_intro _ (Ints.src hsl (a := 0) (b := k) (by omega) hk hcap) ?_
      refine grow_intro ?_ ?_ fun b1 c1 _ => ?_
      · show (0 + (ints _).length) * 8 ≤ _; simp [ints]; omega
      · show 0 + (ints _).length ≤ 9223372036854775807; simp [ints]; omega
      intro r1
      refine grow_intro ?_ ?_ fun b2 c2 _ => ?_
      · show (([] ++ ints _).length + 1) * 8 ≤ _; simp [ints]; omega
      · show ([] ++ ints _).length + 1 ≤ 9223372036854775807; simp [ints]; omega
      refine cut_intro k l.length rfl rfl hk (by omega) ?_
      refine src_intro _ (Ints.src hsl (a := k) (b := l.length) hk (Nat.le_refl _) hcap) ?_
      refine grow_intro ?_ ?_ fun b3 c3 _ => ?_
      · show (([] ++ ints _ ++ [_]).length + (ints _).length) * 8 ≤ _; simp [ints]; omega
      · show ([] ++ ints _ ++ [_]).length + (ints _).length ≤ 9223372036854775807; simp [ints]; omega
      refine ret_frz [0] fun μ' hle hno hrow => .inl ⟨insInt l n k, ?_, insInt_mem l n k, ?_⟩
      · have e : [] ++ ints ((l.drop 0).take (k - 0)) ++ [.int .i64 n] ++ ints ((l.drop k).take (l.length - k)) = ints (insInt l n k) := by
          simp [ints, insInt]
          rw [List.take_of_length_le (by simp)]
        rw [e] at hrow ⊢
        exact Ints.sl hrow (Nat.le_trans (m := 2000000000) (by simp [insInt]; omega) (by decide))
      · simp [insInt]; omega
    · intro r0
      refine cut_intro 0 k rfl rfl (by omega) (by omega) ?_
      refine src_intro _ (Ints.src hsl (a := 0) (b := k) (by omega) hk hcap) ?_
      refine grow_intro ?_ ?_ fun b1 c1 _ => ?_
      · show (0 + (ints _).length) * 8 ≤ _; simp [ints]; omega
      · show 0 + (ints _).length ≤ 9223372036854775807; simp [ints]; omega
      intro r1
      refine grow_intro ?_ ?_ fun b2 c2 _ => ?_
      · show (([] ++ ints _).length + 1) * 8 ≤ _; simp [ints]; omega
      · show ([] ++ ints _).length + 1 ≤ 9223372036854775807; simp [ints]; omega
      refine cut_intro k l.length rfl rfl hk (by omega) ?_
      refine src_intro _ (Ints.src hsl (a := k) (b := l.length) hk (Nat.le_refl _) hcap) ?_
      refine grow_intro ?_ ?_ fun b3 c3 _ => ?_
      · show (([] ++ ints _ ++ [_]).length + (ints _).length) * 8 ≤ _; simp [ints]; omega
      · show ([] ++ ints _ ++ [_]).length + (ints _).length ≤ 9223372036854775807; simp [ints]; omega
      refine ret_frz [0] fun μ' hle hno hrow => .inl ⟨insInt l n k, ?_, insInt_mem l n k, ?_⟩
      · have e : [] ++ ints ((l.drop 0).take (k - 0)) ++ [.int .i64 n] ++ ints ((l.drop k).take (l.length - k)) = ints (insInt l n k) := by
          simp [ints, insInt]
          rw [List.take_of_length_le (by simp)]
        rw [e] at hrow ⊢
        exact Ints.sl hrow (Nat.le_trans (m := 2000000000) (by simp [insInt]; omega) (by decide))
      · simp [insInt]; omega
theorem flatMap_take_le {α β : Type} (f : α → List β) (l : List α) (i : Nat) : ((l.take i).flatMap f).length ≤ (l.flatMap f).length := by
  have := congrArg (fun l => (l.flatMap f).length) (List.take_append_drop i l)
  simp only [List.flatMap_append, List.length_append] at this
  omega
/-- What a call has made may be forgotten. -/
theorem Spec.forget {P : Program} {f : FuncId} {args : List Value} {R : Value → Prop} (h : Spec P f args μ fun v _ => R v) : Spec P f args μ fun v μ' => R v ∧ μ' = μ := by
  refine ⟨h.1, fun w hm hh hap => (h.2 w hm hh hap).mono ?_⟩
  rintro e w' ⟨v, μ', h', rfl, hr, hS⟩
  exact ⟨v, μ, Mem.nil, rfl, ⟨hr, rfl⟩, ⟨Mem.Le.refl μ, hS.mem.le hS.le, holds_nil w', apart_nil _, fun b h1 h2 => absurd h1 h2, fun b hb => absurd rfl hb, hS.size, hS.keep, hS.os, hS.tape, hS.output⟩⟩
/-- The parts of a term. -/
def T.args : T → List T
  | .pair a b => [a, b]
  | .nil => []
  | .var _ => []
  | .sym _ => []
  | .num _ => []
theorem T.ind {p : T → Prop} (h : ∀ x : T, (∀ y ∈ x.args, p y) → p x) : ∀ x, p x
  | .pair a b => by
    have ha := T.ind h a
    have hb := T.ind h b
    refine h _ fun y hy => ?_
    simp only [T.args, List.mem_cons, List.not_mem_nil, or_false] at hy
    rcases hy with rfl | rfl
    · exact ha
    · exact hb
  | .nil => h _ fun y hy => by simp [T.args] at hy
  | .var _ => h _ fun y hy => by simp [T.args] at hy
  | .sym _ => h _ fun y hy => by simp [T.args] at hy
  | .num _ => h _ fun y hy => by simp [T.args] at hy
theorem T.tm_args (x : T) : x.tm.args = x.args.map T.tm := by cases x <;> rfl
theorem T.vars_args {x : T} (h : x.tm.kind ≠ 1) : x.vars = x.args.flatMap T.vars := by
  cases x <;> simp_all [T.vars, T.args, T.tm, Tm.kind]
theorem T.vars_size : ∀ x : T, x.vars.length ≤ x.size
  | .nil => by simp [T.vars]
  | .var _ => by simp [T.vars, T.size]
  | .sym _ => by simp [T.vars]
  | .num _ => by simp [T.vars]
  | .pair a b => by
    have := T.vars_size a
    have := T.vars_size b
    simp [T.vars, T.size]; omega
/-- A list of numbers that holds a term's variables, beside those of l. -/
def VarsOf (μ' : Mem) (l vs : List Int) (v : Value) : Prop := ∃ r : List Int, RepV μ' (.sl 1 (r.map D.i)) v ∧ (∀ x, x ∈ r ↔ x ∈ vs ∨ x ∈ l) ∧ r.length ≤ l.length + vs.length
theorem l02Vars_spec : ∀ (x : T) {μ : Mem} {l : List Int} {w v : Value}, RepV μ x.tm.d w → RepV μ (.sl 1 (l.map D.i)) v → l.length + x.vars.length ≤ 1000000000 → Spec Try.prog 138 [w, v] μ fun v μ' => VarsOf μ' l x.vars v :=
  T.ind fun x ih μ l w v hw hv hb => by
    obtain ⟨base, cap, rfl, hsl⟩ : ∃ base cap, w = .agg #[.int .i64 x.tm.kind, .int .i64 x.tm.num, .string x.tm.name, .slice base x.args.length cap] ∧ Sl μ 4 base x.args.length ((x.args.map T.tm).map Tm.d) := by
      have h1 := Tm.inv (k := x.tm.kind) (n := x.tm.num) (s := x.tm.name) (l := x.tm.args) (v := w) (by cases x <;> exact hw)
      rw [T.tm_args, List.length_map] at h1
      exact h1
    have hn := maxLen_le hsl.max
    refine Spec.mk Try.func138 (by kernel_rfl) ?_
    intro r
    refine ifd (fun h => ?_) (fun h => ?_)
    · have e : x.vars = [x.tm.num] := by cases x <;> simp_all [T.vars, T.tm, Tm.kind, Tm.num]
      refine call_plain (l02Insert_spec hv (by omega)) fun v' μ' hle hR => ret_plain ?_
      obtain ⟨r, h1, h2, h3⟩ := hR
      exact ⟨r, h1, by simpa [e] using h2, by simpa [e] using h3⟩
    have e := T.vars_args h
    refine loop_intro (fun p : Nat × Value × Mem => p.1 ≤ x.args.length ∧ μ.Le p.2.2 ∧ VarsOf p.2.2 l ((x.args.take p.1).flatMap T.vars) p.2.1)
      (fun (i, v, μ') => ⟨[(1, .val v), (15, .val (.slice base x.args.length cap)), (16, .val (.int .i64 x.args.length)), (17, .val (.int .i64 i))], [], 1, μ', Mem.nil⟩) (fun p => x.args.length - p.1)
      (0, v, μ) ⟨by simp, Mem.Le.refl μ, l, hv, by simp, by simp⟩ (fun (_, _, _) => ⟨rfl, rfl⟩) ⟨⟨rfl, rfl, rfl, rfl, trivial⟩, trivial, rfl, rfl⟩ ?_
    rintro ⟨i, v, μ'⟩ ⟨hi, hle, r, h1, h2, h3⟩
    dsimp only at hi hle h1 h2 h3
    have hpre : ((x.args.take i).flatMap T.vars).length ≤ x.vars.length := by
      rw [e]; exact flatMap_take_le _ _ _
    refine ifd (fun h => ?_) (fun h => ?_)
    · obtain ⟨t, ht⟩ := at_some (l := x.args) (i := i) (by omega)
      have ht' : (x.args.map T.tm)[i]? = some t.tm := by simp [ht]
      obtain ⟨ad, p, hel, hr⟩ := Tm.elem (hsl.mono hle) ht'
      have hsucc : (x.args.take (i + 1)).flatMap T.vars = (x.args.take i).flatMap T.vars ++ t.vars := by
        rw [List.take_add_one, ht, Option.toList_some, List.flatMap_append]; simp
      have hall : ((x.args.take (i + 1)).flatMap T.vars).length ≤ x.vars.length := by
        rw [e]; exact flatMap_take_le _ _ _
      rw [hsucc, List.length_append] at hall
      refine elem_intro hel ?_
      intro r2
      refine call_plain (ih t (mem_at ht) hr h1 (by omega)) fun v' μ'' hle2 hR => ?_
      obtain ⟨q, g1, g2, g3⟩ := hR
      refine num64 (by omega) (by omega) ⟨(i + 1, v', μ''), ⟨by dsimp only; omega, hle.trans hle2, q, g1, fun y => ?_, ?_⟩, by dsimp only; omega, ⟨⟨rfl, rfl, rfl, rfl, trivial⟩, trivial, rfl, rfl⟩⟩
      · dsimp only
        rw [g2, h2, hsucc, List.mem_append]
        constructor
        · rintro (h | h | h) <;> simp [h]
        · rintro ((h | h) | h) <;> simp [h]
      · dsimp only
        rw [hsucc, List.length_append]; omega
    · have hi' : i = x.args.length := by omega
      subst hi'
      rw [List.take_length, ← e] at h2 h3
      exact ret_plain ⟨r, h1, h2, h3⟩
end
end Go.Vx

/- Contracts: lists of bindings, and the reference's substitutions. -/
namespace Go.Vx
open Go.Proofs Classical
/-! ### Plain -/
noncomputable def Tm.toT (t : Tm) : T := if h : ∃ x : T, x.tm = t then h.choose else .nil
theorem T.toT_tm (x : T) : x.tm.toT = x := by
  have h : ∃ y : T, y.tm = x.tm := ⟨x, rfl⟩
  rw [Tm.toT, dif_pos h]
  exact T.tm_inj h.choose_spec
theorem Tm.Ok.toT {t : Tm} (h : t.Ok) : t.toT.ok ∧ t.toT.tm = t := by
  obtain ⟨x, h1, rfl⟩ := h.lift
  rw [T.toT_tm]; exact ⟨h1, rfl⟩
structure B where
  var : Int
  to : T
def B.bd (b : B) : Bd := ⟨b.var, b.to.tm⟩
noncomputable def Bd.b (b : Bd) : B := ⟨b.var, b.to.toT⟩
/-- Binding i of a list is fine. -/
def okAt (l : List Bd) (i : Nat) (b : Bd) : Prop := (0 ≤ b.var ∧ b.var ≤ 100000) ∧ b.to.Ok ∧ ∀ j c, j + 1 = i → l[j]? = some c → c.var < b.var
def valsOk (l : List Bd) : Prop := l.length ≤ 400 ∧ ∀ i b, l[i]? = some b → okAt l i b
theorem valsOk.lift {l : List Bd} (h : valsOk l) : (l.map Bd.b).map B.bd = l ∧ (∀ b ∈ l.map Bd.b, b.to.ok) := by
  have h2 : ∀ b ∈ l, b.to.Ok := fun b hb => by
    obtain ⟨i, hi⟩ := List.mem_iff_getElem?.1 hb
    exact (h.2 i b hi).2.1
  clear h
  induction l with
  | nil => simp
  | cons b l ih =>
    have h1 := (h2 b (by simp)).toT
    obtain ⟨i1, i2⟩ := ih fun b hb => h2 b (by simp [hb])
    refine ⟨?_, ?_⟩
    · simp only [List.map_cons, i1, List.cons.injEq, and_true, Bd.b, B.bd, h1.2]
    · intro c hc
      simp only [List.map_cons, List.mem_cons] at hc
      rcases hc with rfl | hc
      · exact h1.1
      · exact i2 c hc
def sub : List B → Int → Option T
  | [], _ => none
  | b :: r, n => if b.var = n then some b.to else sub r n
def T.subst (f : Int → Option T) : T → T
  | .var n => (f n).getD (.var n)
  | .pair a b => .pair (a.subst f) (b.subst f)
  | .nil => .nil
  | .sym s => .sym s
  | .num n => .num n
theorem drop_at {α : Type} {l : List α} {i : Nat} {a : α} (h : l[i]? = some a) : l.drop i = a :: l.drop (i + 1) := by
  obtain ⟨h1, h2⟩ := List.getElem?_eq_some_iff.1 h
  rw [List.drop_eq_getElem_cons h1, h2]
/-- A term and whether it is one. -/
def optV (P : T → Value → Prop) (o : Option T) (v : Value) : Prop := match o with
  | some y => ∃ tv, v = .tuple #[tv, .bool true] ∧ P y tv
  | none => v = .tuple #[.agg #[.int .i64 0, .int .i64 0, .string ⟨#[]⟩, .slice none 0 0], .bool false]
section
variable {μ : Mem}
theorem T.fits (x : T) : (upTo (x.size : Int) 5000 ≤ 5000) ↔ x.size ≤ 5000 := by unfold upTo; omega
/-- An element's term. -/
theorem Bd.toV {b : Bd} {p : Option Addr × Nat} (h : RepV μ b.d (.agg (b.cs p).toArray)) : RepV μ b.to.d (.agg (b.to.cs p).toArray) := by
  obtain ⟨q, e, hto⟩ := Bd.inv h
  have hq : q = p := by
    have h2 := congrArg (fun v => match v with | Value.agg a => a[4]? | _ => none) e
    simp [Bd.cs] at h2
    exact Prod.ext h2.1.symm h2.2.symm
  rw [← hq]; exact hto
/-! ### The reference's -/
theorem l02Pair_spec {a b : T} {va vb : Value} (ha : RepV μ a.tm.d va) (hb : RepV μ b.tm.d vb) : Spec Try.prog 194 [va, vb] μ fun v μ' => RepV μ' (T.pair a b).tm.d v := by
  obtain ⟨p, rfl⟩ := Tm.invV ha
  obtain ⟨q, rfl⟩ := Tm.invV hb
  refine Spec.mk Try.func194 (by kernel_rfl) ?_
  intro r1 r2 r3 r4
  refine ret_frz [3] fun μ' hle hno hrow => .inl ?_
  rw [T.tm, Tm.d_mk]
  exact ⟨_, rfl, RepS.int (RepS.int (RepS.str (RepS.last (Rows.sl hrow (.cons (ha.mono hle) (Tm.d_n _) (.cons (hb.mono hle) (Tm.d_n _) .nil)) (show 2 ≤ maxLen by decide)))))⟩
theorem l02Fits_spec (x : T) {v : Value} (hv : RepV μ x.tm.d v) : Gives Try.prog 140 [v] μ (.bool (decide (x.size ≤ 5000))) := by
  obtain ⟨p, rfl⟩ := Tm.invV hv
  refine Spec.mk Try.func140 (by kernel_rfl) ?_
  intro r
  refine call_gives (l02Count_spec x.tm hv (by decide) (by decide)) (ret_gives ?_ rfl)
  rw [T.cnt_tm]
  exact isI (T.fits x)
theorem l04Get_spec {bs : List B} {base : Option Addr} {cap : Nat} {n : Int} (hsl : Sl μ 5 base bs.length ((bs.map B.bd).map Bd.d)) :
    Spec Try.prog 70 [.slice base bs.length cap, .int .i64 n] μ fun v μ' => optV (fun y tv => RepV μ y.tm.d tv) (sub bs n) v ∧ μ' = μ := by
  have hn := maxLen_le hsl.max
  refine Spec.mk Try.func70 (by kernel_rfl) ?_
  intro r
  refine loop_intro (fun i : Nat => i ≤ bs.length ∧ sub bs n = sub (bs.drop i) n) (fun i => ⟨[(1, .val (.int .i64 n)), (4, .loc 0 r 0), (8, .val (.slice base bs.length cap)), (9, .val (.int .i64 bs.length)), (10, .val (.int .i64 i))], [(0, some (.cells r [.val (.int .i64 0), .val (.int .i64 0), .val (.string ⟨#[]⟩), .val (.slice none 0 0)] 66))], 1, μ, Mem.nil⟩) (fun i => bs.length - i)
    0 ⟨by omega, rfl⟩ (fun i => ⟨rfl, rfl⟩) ⟨⟨rfl, rfl, rfl, rfl, rfl, trivial⟩, ⟨rfl, trivial⟩, rfl, rfl⟩ ?_
  rintro i ⟨hi, he⟩
  refine ifd (fun h => ?_) (fun h => ?_)
  · obtain ⟨b, hb⟩ := at_some (l := bs) (i := i) (by omega)
    have hb' : (bs.map B.bd)[i]? = some b.bd := by simp [hb]
    obtain ⟨ad, p, hel, hr⟩ := Bd.elem hsl hb'
    have hto := Bd.toV hr
    rw [drop_at hb] at he
    refine elem_intro hel ?_
    intro r2
    refine ifd (fun h2 => ?_) (fun h2 => ?_)
    · have h2 : b.var = n := h2
      have e2 : sub bs n = some b.to := by rw [he, sub, if_pos h2]
      rw [e2]
      exact ret_plain ⟨⟨_, rfl, hto⟩, rfl⟩
    · have h2 : ¬ b.var = n := h2
      have e2 : sub bs n = sub (bs.drop (i + 1)) n := by rw [he, sub, if_neg h2]
      exact num64 (by omega) (by omega) ⟨i + 1, ⟨by omega, e2⟩, by omega, ⟨⟨rfl, rfl, rfl, rfl, rfl, trivial⟩, ⟨rfl, trivial⟩, rfl, rfl⟩⟩
  · obtain rfl : i = bs.length := by omega
    rw [List.drop_length] at he
    rw [he]
    exact ret_plain ⟨rfl, rfl⟩
theorem l04Put_spec {bs : List B} {base : Option Addr} {cap : Nat} : ∀ (x : T) {μ : Mem} {v : Value}, Sl μ 5 base bs.length ((bs.map B.bd).map Bd.d) → RepV μ x.tm.d v →
    Spec Try.prog 139 [.slice base bs.length cap, v] μ fun v μ' => RepV μ' (x.subst (sub bs)).tm.d v := by
  intro x
  induction x with
  | var n =>
    intro μ v hsl hv
    obtain ⟨p, rfl⟩ := Tm.invV hv
    refine Spec.mk Try.func139 (by kernel_rfl) ?_
    intro r1 r2
    refine ifd (fun _ => ?_) (fun h => absurd rfl h)
    refine call_plain (l04Get_spec hsl) fun v' μ' hle hR => ?_
    obtain ⟨hR, e2⟩ := hR
    obtain rfl := e2.symm
    have hR : optV (fun y tv => RepV μ y.tm.d tv) (sub bs n) v' := hR
    simp only [T.subst]
    cases hs : sub bs n with
    | some y =>
      rw [hs] at hR
      obtain ⟨tv, rfl, htv⟩ := hR
      obtain ⟨q, rfl⟩ := Tm.invV htv
      intro r3
      refine if_intro (fun _ => ret_plain htv) (fun h => nomatch h)
    | none =>
      rw [hs] at hR
      obtain rfl := hR
      intro r3
      refine if_intro (fun h => nomatch h) (fun _ => ?_)
      refine ifd (fun h => absurd h (by simp [T.tm, Tm.kind])) (fun _ => ?_)
      exact ret_plain hv
  | pair a b iha ihb =>
    intro μ v hsl hv
    obtain ⟨base', cap', rfl, hsa⟩ := Tm.inv hv
    obtain ⟨ad, ad', p, p', h1, h2, hra, hrb⟩ := T.parts hsa
    refine Spec.mk Try.func139 (by kernel_rfl) ?_
    intro r1 r2
    refine ifd (fun h => absurd h (by simp [T.tm, Tm.kind])) (fun _ => ?_)
    refine ifd (fun _ => ?_) (fun h => absurd rfl h)
    refine elem_intro h1 ?_
    refine elem_intro h2 ?_
    refine call_plain (iha hsl hra) fun v1 μ1 hle1 hR1 => ?_
    refine call_plain (ihb (hsl.mono hle1) (hrb.mono hle1)) fun v2 μ2 hle2 hR2 => ?_
    refine call_plain (l02Pair_spec (hR1.mono hle2) hR2) fun v3 μ3 hle3 hR3 => ?_
    obtain ⟨q, rfl⟩ := Tm.invV hR3
    exact ret_plain hR3
  | _ =>
    intro μ v hsl hv
    obtain ⟨p, rfl⟩ := Tm.invV hv
    refine Spec.mk Try.func139 (by kernel_rfl) ?_
    intro r1 r2
    refine ifd (fun h => absurd h (by simp [T.tm, Tm.kind])) (fun _ => ?_)
    refine ifd (fun h => absurd h (by simp [T.tm, Tm.kind])) (fun _ => ?_)
    exact ret_plain hv
theorem l04Apply_spec {bs : List B} {base : Option Addr} {cap : Nat} (x : T) {v : Value} (hsl : Sl μ 5 base bs.length ((bs.map B.bd).map Bd.d)) (hv : RepV μ x.tm.d v) :
    Spec Try.prog 69 [.slice base bs.length cap, v] μ fun v μ' => ∃ tv, v = .tuple #[tv, .bool (decide ((x.subst (sub bs)).size ≤ 5000))] ∧ RepV μ' (x.subst (sub bs)).tm.d tv := by
  obtain ⟨p, rfl⟩ := Tm.invV hv
  refine Spec.mk Try.func69 (by kernel_rfl) ?_
  intro r1 r2
  refine call_plain (l04Put_spec x hsl hv) fun v1 μ1 hle1 hR1 => ?_
  obtain ⟨q, rfl⟩ := Tm.invV hR1
  intro r3
  refine call_gives (l02Fits_spec _ hR1) ?_
  exact ret_plain ⟨_, rfl, hR1⟩
end
end Go.Vx

/- Contracts: which lists of bindings are fine; copies; the reference's Instantiate. -/
namespace Go.Vx
open Go.Proofs Classical
section
variable {μ : Mem}
theorem okAt_ext {l : List Bd} {i : Nat} (hall : ∀ j b, j < i → l[j]? = some b → okAt l j b) {b : Bd} (hb : l[i]? = some b) (h : okAt l i b) : ∀ j b, j < i + 1 → l[j]? = some b → okAt l j b := fun j c hj hc => by
  rcases Nat.lt_or_ge j i with h1 | h1
  · exact hall j c h1 hc
  · obtain rfl : j = i := by omega
    rw [hb] at hc; cases hc; exact h
theorem l04Values_spec {l : List Bd} {base : Option Addr} {cap : Nat} (hsl : Sl μ 5 base l.length (l.map Bd.d)) (hw : D.wds (l.map Bd.d)) : Gives Try.prog 137 [.slice base l.length cap] μ (.bool (decide (valsOk l))) := by
  have hn := maxLen_le hsl.max
  refine Spec.mk Try.func137 (by kernel_rfl) ?_
  refine loop_intro (fun i : Nat => i ≤ l.length ∧ ∀ j b, j < i → l[j]? = some b → okAt l j b) (fun i => ⟨[(0, .val (.slice base l.length cap)), (5, .val (.slice base l.length cap)), (6, .val (.int .i64 l.length)), (7, .val (.int .i64 i))], [], 0, μ, Mem.nil⟩) (fun i => l.length - i)
    0 ⟨by omega, fun j b hj => by omega⟩ (fun i => ⟨rfl, rfl⟩) ⟨⟨rfl, rfl, rfl, rfl, trivial⟩, trivial, rfl, rfl⟩ ?_
  rintro i ⟨hi, hall⟩
  refine ifd (fun h => ?_) (fun h => ?_)
  · obtain ⟨b, hb⟩ := at_some (l := l) (i := i) (by omega)
    obtain ⟨ad, p, hel, hr⟩ := Bd.elem hsl hb
    have hto := Bd.toV hr
    have hwt : b.to.d.wd := (D.wds_mem hw _ (mem_at (at_map (f := Bd.d) hb))).2.1
    have bad : ¬ okAt l i b → Value.bool false = .bool (decide (valsOk l)) := fun k => isF fun hv => k (hv.2 i b hb)
    refine elem_intro hel ?_
    intro r
    refine ifd (fun h0 => ?_) (fun h0 => ?_)
    · obtain ⟨c, hc⟩ := at_some (l := l) (i := i - 1) (by omega)
      obtain ⟨ad2, p2, hel2, _⟩ := Bd.elem hsl hc
      have hprev : okAt l i b → c.var < b.var := fun k => k.2.2 (i - 1) c (by omega) hc
      refine num_eq (x := ((i - 1 : Nat) : Int)) (by rw [wrap64 (by omega) (by omega)]; omega) ?_
      refine elem_intro hel2 ?_
      refine ifd (fun h1 => ret_gives (bad fun k => by have := hprev k; omega) rfl) (fun h1 => ?_)
      have hlt : ∀ j c', j + 1 = i → l[j]? = some c' → c'.var < b.var := fun j c' hj hc' => by
        have e : j = i - 1 := by omega
        rw [e, hc] at hc'
        cases hc'; omega
      refine call_gives (l01In_spec _ _ _ _) ?_
      refine ifnd (fun h2 => ret_gives (bad fun k => h2 k.1) rfl) (fun h2 => ?_)
      refine call_gives (spec_TermOk_spec b.to hto hwt) ?_
      refine ifnd (fun h3 => ret_gives (bad fun k => h3 k.2.1) rfl) (fun h3 => ?_)
      exact num64 (by omega) (by omega) ⟨i + 1, ⟨by omega, okAt_ext hall hb ⟨h2, h3, hlt⟩⟩, by omega, ⟨⟨rfl, rfl, rfl, rfl, trivial⟩, trivial, rfl, rfl⟩⟩
    · refine call_gives (l01In_spec _ _ _ _) ?_
      refine ifnd (fun h2 => ret_gives (bad fun k => h2 k.1) rfl) (fun h2 => ?_)
      refine call_gives (spec_TermOk_spec b.to hto hwt) ?_
      refine ifnd (fun h3 => ret_gives (bad fun k => h3 k.2.1) rfl) (fun h3 => ?_)
      exact num64 (by omega) (by omega) ⟨i + 1, ⟨by omega, okAt_ext hall hb ⟨h2, h3, fun j c' hj _ => by omega⟩⟩, by omega, ⟨⟨rfl, rfl, rfl, rfl, trivial⟩, trivial, rfl, rfl⟩⟩
  · obtain rfl : i = l.length := by omega
    refine ret_gives (isI ⟨fun hh => ⟨by omega, fun j b hb => hall j b (List.getElem?_eq_some_iff.1 hb).1 hb⟩, fun hh => by have := hh.1; omega⟩) rfl
theorem impl_ValuesOk_spec {l : List Bd} {base : Option Addr} {cap : Nat} (hsl : Sl μ 5 base l.length (l.map Bd.d)) : Gives Try.prog 127 [.slice base l.length cap] μ (.bool (decide (valsOk l))) := by
  have hn := maxLen_le hsl.max
  refine Spec.mk Try.func127 (by kernel_rfl) ?_
  refine ifd (fun h => ret_gives (isF fun k => by have := k.1; omega) rfl) (fun hlen => ?_)
  refine loop_intro (fun i : Nat => i ≤ l.length ∧ ∀ j b, j < i → l[j]? = some b → okAt l j b) (fun i => ⟨[(0, .val (.slice base l.length cap)), (8, .val (.slice base l.length cap)), (9, .val (.int .i64 l.length)), (10, .val (.int .i64 i))], [], 0, μ, Mem.nil⟩) (fun i => l.length - i)
    0 ⟨by omega, fun j b hj => by omega⟩ (fun i => ⟨rfl, rfl⟩) ⟨⟨rfl, rfl, rfl, rfl, trivial⟩, trivial, rfl, rfl⟩ ?_
  rintro i ⟨hi, hall⟩
  refine ifd (fun h => ?_) (fun h => ?_)
  · obtain ⟨b, hb⟩ := at_some (l := l) (i := i) (by omega)
    obtain ⟨ad, p, hel, hr⟩ := Bd.elem hsl hb
    have hto := Bd.toV hr
    have bad : ¬ okAt l i b → Value.bool false = .bool (decide (valsOk l)) := fun k => isF fun hv => k (hv.2 i b hb)
    refine elem_intro hel ?_
    intro r
    refine ifd (fun h1 => ret_gives (bad fun k => by have := k.1.1; omega) rfl) (fun h1 => ?_)
    refine ifd (fun h2 => ret_gives (bad fun k => by have := k.1.2; omega) rfl) (fun h2 => ?_)
    refine ifd (fun h0 => ?_) (fun h0 => ?_)
    · obtain ⟨c, hc⟩ := at_some (l := l) (i := i - 1) (by omega)
      obtain ⟨ad2, p2, hel2, _⟩ := Bd.elem hsl hc
      have hprev : okAt l i b → c.var < b.var := fun k => k.2.2 (i - 1) c (by omega) hc
      refine num_eq (x := ((i - 1 : Nat) : Int)) (by rw [wrap64 (by omega) (by omega)]; omega) ?_
      refine elem_intro hel2 ?_
      refine ifd (fun h1 => ret_gives (bad fun k => by have := hprev k; omega) rfl) (fun h3 => ?_)
      have hlt : ∀ j c', j + 1 = i → l[j]? = some c' → c'.var < b.var := fun j c' hj hc' => by
        have e : j = i - 1 := by omega
        rw [e, hc] at hc'
        cases hc'; omega
      refine call_gives (impl_TermOk_spec b.to hto) ?_
      refine ifnd (fun h3 => ret_gives (bad fun k => h3 k.2.1) rfl) (fun h4 => ?_)
      exact num64 (by omega) (by omega) ⟨i + 1, ⟨by omega, okAt_ext hall hb ⟨⟨by omega, by omega⟩, h4, hlt⟩⟩, by omega, ⟨⟨rfl, rfl, rfl, rfl, trivial⟩, trivial, rfl, rfl⟩⟩
    · refine call_gives (impl_TermOk_spec b.to hto) ?_
      refine ifnd (fun h3 => ret_gives (bad fun k => h3 k.2.1) rfl) (fun h4 => ?_)
      exact num64 (by omega) (by omega) ⟨i + 1, ⟨by omega, okAt_ext hall hb ⟨⟨by omega, by omega⟩, h4, fun j c' hj _ => by omega⟩⟩, by omega, ⟨⟨rfl, rfl, rfl, rfl, trivial⟩, trivial, rfl, rfl⟩⟩
  · obtain rfl : i = l.length := by omega
    exact ret_gives (isT ⟨by omega, fun j b hb => hall j b (List.getElem?_eq_some_iff.1 hb).1 hb⟩) rfl
end
end Go.Vx

/- Contracts: the marks' texts. -/
namespace Go.Vx
open Go.Proofs Classical
section
variable {μ : Mem}
theorem wrap8 {n : Int} (h1 : 0 ≤ n) (h2 : n < 256) : IntKind.u8.wrap n = n := by
  have e : IntKind.u8.bits = 8 := rfl
  have e2 : IntKind.u8.signed = false := rfl
  simp only [IntKind.wrap, e, e2, Bool.false_and]
  simp only [show (2 : Int) ^ 8 = 256 from rfl]
  simp; omega
theorem bytes_app (a b : List UInt8) : (⟨a.toArray⟩ : ByteArray) ++ ⟨b.toArray⟩ = ⟨(a ++ b).toArray⟩ := by
  have : ((⟨a.toArray⟩ : ByteArray) ++ ⟨b.toArray⟩).data = (a ++ b).toArray := by
    rw [ByteArray.data_append]; simp
  cases h : (⟨a.toArray⟩ : ByteArray) ++ ⟨b.toArray⟩
  rw [h] at this
  simp only at this
  rw [this]
theorem markText_spec (k : Int) (hk : k ≤ 9223372036854775807) : Gives Try.prog 79 [.int .i64 k] μ (.string (mtext k)) := by
  refine Spec.mk Try.func79 (by kernel_rfl) ?_
  refine ifd (fun h => ret_gives ?_ rfl) (fun h => ?_)
  · rw [mtext, if_pos h]
  obtain ⟨n, rfl⟩ : ∃ n : Nat, k = n := ⟨k.toNat, by omega⟩
  refine loop_intro (fun p : Nat × List UInt8 => digits n = digits p.1 ++ p.2 ∧ p.1 * 2 ^ p.2.length ≤ n ∧ p.2.length ≤ 64) (fun p => ⟨[(0, .val (.int .i64 p.1)), (3, .val (.string ⟨p.2.toArray⟩))], [], 0, μ, Mem.nil⟩) (fun p => p.1)
    (n, []) ⟨by simp, by simp, by simp⟩ (fun i => ⟨rfl, rfl⟩) ⟨⟨rfl, rfl, trivial⟩, trivial, rfl, rfl⟩ ?_
  rintro ⟨m, l⟩ ⟨h1, h2, hlen0⟩
  simp only at h1 h2 hlen0
  refine ifd (fun h3 => ?_) (fun h3 => ?_)
  · have hm : m ≠ 0 := by omega
    have hmn : m ≤ n := Nat.le_trans (Nat.le_mul_of_pos_right _ (Nat.two_pow_pos _)) h2
    have hlen : l.length ≤ 63 := by
      rcases Nat.lt_or_ge 63 l.length with h | h
      · exfalso
        have h4 : 2 ^ 64 ≤ 2 ^ l.length := Nat.pow_le_pow_right (by omega) h
        have h5 : 1 * 2 ^ l.length ≤ m * 2 ^ l.length := Nat.mul_le_mul_right _ (by omega)
        omega
      · exact h
    refine need_intro (by omega) (num_eq (x := ((m % 10 : Nat) : Int)) (by rw [Int.tmod_eq_emod_of_nonneg (by omega)]; omega) ?_)
    refine num64 (by omega) (by omega) (num_eq (wrap8 (by omega) (by omega)) ?_)
    intro r
    have hb : (UInt8.ofNat (48 + m % 10)).toNat = 48 + m % 10 := by
      rw [UInt8.toNat_ofNat']; omega
    refine bytes_intro [UInt8.ofNat (48 + m % 10)] (by simp only [List.map_cons, List.map_nil, hb]; congr 2) ?_
    refine need_intro (by simp [ByteArray.size]; omega) ?_
    refine need_intro (by omega) (num_eq (x := ((m / 10 : Nat) : Int)) (by show IntKind.i64.wrap (Int.tdiv (m : Int) 10) = _; rw [Int.tdiv_eq_ediv_of_nonneg (by omega), wrap64 (by omega) (by omega)]; simp) ?_)
    refine ⟨(m / 10, UInt8.ofNat (48 + m % 10) :: l), ⟨?_, ?_, by simp only [List.length_cons]; omega⟩, by simp only; omega, ⟨⟨rfl, ?_, trivial⟩, trivial, rfl, rfl⟩⟩
    · simp only; rw [h1, digits_pos hm]; simp
    · simp only [List.length_cons, Nat.pow_succ]
      have : m / 10 * 2 ≤ m := by omega
      calc m / 10 * (2 ^ l.length * 2) = (m / 10 * 2) * 2 ^ l.length := by rw [Nat.mul_comm (2 ^ l.length) 2, ← Nat.mul_assoc]
        _ ≤ m * 2 ^ l.length := Nat.mul_le_mul_right _ this
        _ ≤ n := h2
    · simp only [look]
      rw [bytes_app]; rfl
  · have hm : m = 0 := by omega
    subst hm
    refine need_intro (by simp [ByteArray.size]; omega) ?_
    refine ret_gives ?_ rfl
    rw [mtext, if_neg (by omega)]
    have := bytes_app [109] l
    rw [this, Int.toNat_natCast, h1, digits_zero]; rfl
end
end Go.Vx

/- Contracts: marks on terms and bindings, and what holds them. -/
namespace Go.Vx
open Go.Proofs Classical
/-- A row of owned data in the midst of being marked: i elements are done; hh is what the elements own. -/
structure Marking (xs : List D) (k : Int) (rest : List Value) (r : Nat) (j : Nat) (pre tail : List Value) (hh : Mem) : Prop where
  le : j ≤ xs.length
  out : hh r = none
  parts : ∃ post hpre hpost, tail = post ++ rest ∧ Parts hh hpre hpost ∧ OwnS (D.mks (xs.take j) k).1 hpre pre ∧ OwnS (xs.drop j) hpost post
theorem Marking.start {xs : List D} {k : Int} {rest flat : List Value} {r : Nat} {h2 : Mem} (h : h2 r = none) (o : OwnS xs h2 flat) : Marking xs k rest r 0 [] (flat ++ rest) h2 :=
  ⟨by omega, h, flat, Mem.nil, h2, rfl, Parts.nil_left _, ⟨rfl, rfl⟩, by simpa using o⟩
theorem Marking.len {xs : List D} {k : Int} {rest : List Value} {r : Nat} {j es : Nat} {pre tail : List Value} {hh : Mem} (m : Marking xs k rest r j pre tail hh) (hn : ∀ x ∈ xs, x.n = es) : pre.length = j * es := by
  obtain ⟨post, hpre, hpost, rfl, hp, o1, o2⟩ := m.parts
  rw [o1.len, D.mks_n, D.ns_eq (es := es) fun x hx => hn x (List.mem_of_mem_take hx), List.length_take, Nat.min_eq_left m.le]
/-- The next element: what it owns (g), and the rest (m). -/
theorem Marking.next {xs : List D} {k : Int} {rest : List Value} {r : Nat} {j : Nat} {pre tail : List Value} {hh : Mem} (M : Marking xs k rest r j pre tail hh) {x : D} (hx : xs[j]? = some x) :
    ∃ c g m c2, tail = c ++ (c2 ++ rest) ∧ Own x g c ∧ Parts hh g m ∧ m r = none ∧
      (∀ g' c', Apart g' m → g' r = none → Own (x.mk (D.mks (xs.take j) k).2).1 g' c' → Marking xs k rest r (j + 1) (pre ++ c') (c2 ++ rest) (g'.join m)) := by
  obtain ⟨post, hpre, hpost, rfl, hp, o1, o2⟩ := M.parts
  have hlt : j < xs.length := (List.getElem?_eq_some_iff.1 hx).1
  have hdrop : xs.drop j = x :: xs.drop (j + 1) := by
    rw [List.drop_eq_getElem_cons hlt]
    congr 1
    exact (List.getElem?_eq_some_iff.1 hx).2
  rw [hdrop] at o2
  obtain ⟨c, c2, g, g2, rfl, q, u1, u2⟩ := o2
  obtain ⟨m, p1, p2⟩ := hp.assoc q.symm
  have hm : m r = none := by
    cases h : m r with
    | none => rfl
    | some o => have := p2.left r o h; rw [M.out] at this; cases this
  refine ⟨c, g, m, c2, by simp, u1, p2.symm, hm, fun g' c' ha hg ho => ⟨hlt, by rw [Mem.join_get, hg]; exact hm, c2, g'.join hpre, g2, rfl, ?_, ?_, u2⟩⟩
  · have a1 : Apart g' hpre := fun b hb => by
      cases h : hpre b with
      | none => rfl
      | some o => have := ha b hb; rw [p1.left b o h] at this; cases this
    obtain ⟨m2, q1, q2⟩ := (Parts.join ha).assoc p1
    have e := q1.is_join
    subst e
    exact q2
  · rw [D.mks_take hx]
    refine OwnS.append (Parts.symm ?_) o1 (OwnS.last ho)
    refine Parts.join fun b hb => ?_
    cases h : hpre b with
    | none => rfl
    | some o => have := ha b hb; rw [p1.left b o h] at this; cases this
theorem Marking.cnt {xs : List D} {k : Int} {j : Nat} {x : D} (hx : xs[j]? = some x) : (D.mks (xs.take j) k).2 + x.cnt ≤ k + D.cnts xs := by
  have h1 := D.cnts_take xs (j + 1)
  rw [D.mks_cnt]
  rw [List.take_add_one, hx, Option.toList_some, D.cnts_append] at h1
  simp only [D.cnts] at h1
  omega
theorem Marking.last {xs : List D} {k : Int} {rest : List Value} {r : Nat} {pre tail : List Value} {hh : Mem} (M : Marking xs k rest r xs.length pre tail hh) : tail = rest ∧ OwnS (D.mks xs k).1 hh pre := by
  obtain ⟨post, hpre, hpost, rfl, hp, o1, o2⟩ := M.parts
  rw [List.drop_length] at o2
  obtain ⟨rfl, rfl⟩ := o2
  obtain rfl := hp.eq (Parts.nil_right _)
  rw [List.take_length] at o1
  exact ⟨by simp, o1⟩
/-- What a framed call gives back of an element's memory. -/
theorem back_of {g' m H' : Mem} {r : Nat} {o : Obj} (hm : m r = none) (p : Parts H' g' (m.set r o)) : Apart g' m ∧ g' r = none ∧ H' = (g'.join m).set r o := by
  obtain ⟨a1, a2⟩ := Mem.set_apart hm p.apart.symm
  exact ⟨a1.symm, a2, p.eq ((Parts.join a1.symm).set (by rw [Mem.join_get, a2]; exact hm))⟩
theorem Tm.own {t : Tm} {h : Mem} {cs : List Value} (k : Own t.d h cs) : ∃ v, cs = [.int .i64 t.kind, .int .i64 t.num, .string t.name, v] ∧ OwnV (.sl 4 (t.args.map Tm.d)) h v := by
  cases t with
  | mk kd n s l =>
    rw [Tm.d_mk] at k
    obtain ⟨c1, c2, h1, h2, rfl, p, ⟨rfl, rfl⟩, c3, c4, h3, h4, rfl, q, ⟨rfl, rfl⟩, c5, c6, h5, h6, rfl, t, ⟨rfl, rfl⟩, c7, c8, h7, h8, rfl, u, k7, rfl, rfl⟩ := k
    obtain rfl := p.eq (Parts.nil_left _)
    obtain rfl := q.eq (Parts.nil_left _)
    obtain rfl := t.eq (Parts.nil_left _)
    obtain rfl := u.eq (Parts.nil_right _)
    have hl := k7.len
    match c7, hl with
    | [v], _ => exact ⟨v, by simp [Tm.kind, Tm.num, Tm.name], k7⟩
theorem Tm.d_eq (t : Tm) : t.d = .st [.i t.kind, .i t.num, .s t.name, .sl 4 (t.args.map Tm.d)] := by
  cases t; exact Tm.d_mk _ _ _ _
theorem Tm.mk_eq (t : Tm) (k : Int) : t.d.mk k = (.st [.i k, .i (k + 1), .s (mtext (k + 1 + 1)), .sl 4 (D.mks (t.args.map Tm.d) (k + 1 + 1 + 1)).1], (D.mks (t.args.map Tm.d) (k + 1 + 1 + 1)).2) := by
  rw [Tm.d_eq]; simp [D.mk, D.mks]
theorem Tm.cnt_eq (t : Tm) : t.d.cnt = 3 + D.cnts (t.args.map Tm.d) := by
  rw [Tm.d_eq]; simp [D.cnt, D.cnts]; omega
section
variable {μ : Mem}
theorem markTermS_of {l : List Tm} (he : ∀ t ∈ l, ∀ {h : Mem} {v : Value} {k : Int}, OwnV (.sl 4 (t.args.map Tm.d)) h v → 0 ≤ k → k + D.cnts (t.args.map Tm.d) ≤ 9223372036854775807 →
      SpecH Try.prog 80 [v, .int .i64 k] μ h fun r μ' h' => r = .int .i64 (D.mks (t.args.map Tm.d) k).2 ∧ μ' = μ ∧ OwnV (.sl 4 (D.mks (t.args.map Tm.d) k).1) h' v)
    {h : Mem} {v : Value} {k : Int} (ho : OwnV (.sl 4 (l.map Tm.d)) h v) (hk : 0 ≤ k) (hk2 : k + D.cnts (l.map Tm.d) ≤ 9223372036854775807) :
    SpecH Try.prog 80 [v, .int .i64 k] μ h fun r μ' h' => r = .int .i64 (D.mks (l.map Tm.d) k).2 ∧ μ' = μ ∧ OwnV (.sl 4 (D.mks (l.map Tm.d) k).1) h' v := by
  obtain ⟨base, cap, e, hm, hn, ho⟩ := ho
  simp only [List.cons.injEq, and_true] at e
  subst e
  have hm' : (l.map Tm.d).length ≤ 9223372036854775807 := Nat.le_trans hm.max (by decide)
  refine SpecH.mk [] Try.func80 (by kernel_rfl) ?_
  rcases ho with ⟨hnil, rfl⟩ | ⟨r, flat, rest, ty, h2, rfl, hr, rfl, ho⟩
  · rw [hnil]
    refine loop_intro (fun i : Nat => i = 0) (fun i => ⟨[(0, .val (.slice base 0 cap)), (1, .val (.int .i64 k)), (5, .val (.int .i64 i))], [], 0, μ, Mem.nil⟩) (fun i => 0 - i)
      0 rfl (fun i => ⟨rfl, rfl⟩) ⟨⟨rfl, rfl, rfl, trivial⟩, trivial, rfl, rfl⟩ ?_
    rintro i rfl
    refine ifd (fun h => by omega) (fun h => ret_plain ⟨rfl, rfl, base, cap, rfl, ⟨Nat.zero_le _, Nat.zero_le _⟩, by simp [D.mks], .inl ⟨rfl, rfl⟩⟩)
  · generalize hxs : l.map Tm.d = xs at *
    refine loop_intro (fun p : Nat × List Value × List Value × Mem => Marking xs k rest r p.1 p.2.1 p.2.2.1 p.2.2.2)
      (fun (i, pre, tail, hh) => ⟨[(0, .val (.slice (some ⟨r, 0, none⟩) xs.length cap)), (1, .val (.int .i64 (D.mks (xs.take i) k).2)), (5, .val (.int .i64 i))], [], 0, μ, hh.set r (.cells (List.toArray (pre ++ tail)) ty (0, 0))⟩) (fun p => xs.length - p.1)
      (0, [], flat ++ rest, h2) (Marking.start hr ho) (fun (_, _, _, _) => ⟨rfl, rfl⟩) ⟨⟨rfl, rfl, rfl, trivial⟩, trivial, rfl, rfl⟩ ?_
    rintro ⟨i, pre, tail, hh⟩ M
    dsimp only at M
    have hi := M.le
    have hge := D.mks_cnt (xs.take i) k
    refine ifd (fun h => ?_) (fun h => ?_)
    · obtain ⟨t, ht⟩ := at_some (l := l) (i := i) (by rw [← hxs] at h; simp at h; omega)
      have hx : xs[i]? = some t.d := by rw [← hxs]; simp [ht]
      obtain ⟨c, g, m, c2, rfl, hown, hp, hmr, back⟩ := M.next hx
      obtain ⟨v, rfl, hv⟩ := Tm.own hown
      obtain ⟨b2, cap2, rfl⟩ := OwnV.slice hv
      have hlen := M.len hn
      have hcnt := Marking.cnt (k := k) hx
      rw [Tm.cnt_eq] at hcnt
      refine ptr_intro ⟨r, 0, none⟩ rfl (by omega) (by omega) ?_
      refine sto_at (j := 0) (by simp [Addr.add_lit', hlen]) (by simp) ?_
      refine num64 (by omega) (by omega) ?_
      refine ptr_intro ⟨r, 0, none⟩ rfl (by omega) (by omega) ?_
      refine sto_at (j := 1) (by simp [Addr.add_lit', hlen]) (by simp) ?_
      refine num64 (by omega) (by omega) ?_
      refine call_gives (markText_spec _ (by omega)) ?_
      refine ptr_intro ⟨r, 0, none⟩ rfl (by omega) (by omega) ?_
      refine sto_at (j := 2) (by simp [Addr.add_lit', hlen]) (by simp) ?_
      refine num64 (by omega) (by omega) ?_
      refine ptr_intro ⟨r, 0, none⟩ rfl (by omega) (by omega) ?_
      refine own_at (j := 3) (by simp [Addr.add_lit', hlen]) rfl ?_
      refine call_own (SpecH.frame (hp.set M.out) (he t (mem_at ht) hv (by omega) (by omega))) fun v μ' H' hle hap hR => ?_
      obtain ⟨h', ⟨rfl, rfl, ho'⟩, hp'⟩ := hR
      obtain ⟨a1, a2, rfl⟩ := back_of hmr hp'
      have hmk := D.mks_take hx k
      have hmk2 := Tm.mk_eq t (D.mks (xs.take i) k).2
      refine num64 (by omega) (by omega) ⟨(i + 1, pre ++ [.int .i64 (D.mks (xs.take i) k).2, .int .i64 ((D.mks (xs.take i) k).2 + 1), .string (mtext ((D.mks (xs.take i) k).2 + 1 + 1)), .slice b2 (t.args.map Tm.d).length cap2], c2 ++ rest, h'.join m), back _ _ a1 a2 ?_, by dsimp only; omega, ⟨⟨rfl, ?_, rfl, trivial⟩, trivial, rfl, ?_⟩⟩
      · rw [hmk2]
        exact OwnS.int (OwnS.int (OwnS.str (OwnS.last ho')))
      · rw [hmk, hmk2]
        rfl
      · simp
    · have hi' : i = xs.length := by omega
      subst hi'
      obtain ⟨rfl, o1⟩ := M.last
      refine ret_plain ⟨by rw [List.take_length], rfl, some ⟨r, 0, none⟩, cap, by rw [D.mks_length], by rw [D.mks_length]; exact hm, D.mks_size k hn, .inr ⟨r, pre, tail, ty, hh, rfl, M.out, rfl, o1⟩⟩
theorem markTermS_spec {l : List Tm} {h : Mem} {v : Value} {k : Int} (ho : OwnV (.sl 4 (l.map Tm.d)) h v) (hk : 0 ≤ k) (hk2 : k + D.cnts (l.map Tm.d) ≤ 9223372036854775807) :
    SpecH Try.prog 80 [v, .int .i64 k] μ h fun r μ' h' => r = .int .i64 (D.mks (l.map Tm.d) k).2 ∧ μ' = μ ∧ OwnV (.sl 4 (D.mks (l.map Tm.d) k).1) h' v :=
  Tm.ind (p := fun t => ∀ {h : Mem} {v : Value} {k : Int}, OwnV (.sl 4 (t.args.map Tm.d)) h v → 0 ≤ k → k + D.cnts (t.args.map Tm.d) ≤ 9223372036854775807 →
      SpecH Try.prog 80 [v, .int .i64 k] μ h fun r μ' h' => r = .int .i64 (D.mks (t.args.map Tm.d) k).2 ∧ μ' = μ ∧ OwnV (.sl 4 (D.mks (t.args.map Tm.d) k).1) h' v)
    (fun _ _ _ _ ih _ _ _ => markTermS_of fun t ht _ _ _ => ih t ht) (.mk 0 0 ⟨#[]⟩ l) ho hk hk2
theorem heldTermS_of {l : List Tm} (he : ∀ t ∈ l, ∀ {v : Value} {k : Int}, RepV μ (.sl 4 (D.mks (t.args.map Tm.d) k).1) v → 0 ≤ k → k + D.cnts (t.args.map Tm.d) ≤ 9223372036854775807 →
      Gives Try.prog 81 [v, .int .i64 k] μ (.int .i64 (D.mks (t.args.map Tm.d) k).2))
    {v : Value} {k : Int} (ho : RepV μ (.sl 4 (D.mks (l.map Tm.d) k).1) v) (hk : 0 ≤ k) (hk2 : k + D.cnts (l.map Tm.d) ≤ 9223372036854775807) :
    Gives Try.prog 81 [v, .int .i64 k] μ (.int .i64 (D.mks (l.map Tm.d) k).2) := by
  obtain ⟨base, cap, rfl, hsl⟩ := Rep.sl ho
  have hm' := Nat.le_trans hsl.max (show maxLen ≤ 9223372036854775807 by decide)
  rw [D.mks_length] at hm' hsl ⊢
  refine Spec.mk Try.func81 (by kernel_rfl) ?_
  generalize hxs : l.map Tm.d = xs at *
  refine loop_intro (fun i : Nat => i ≤ xs.length) (fun i => ⟨[(0, .val (.slice base xs.length cap)), (1, .val (.int .i64 (D.mks (xs.take i) k).2)), (5, .val (.int .i64 i))], [], 0, μ, Mem.nil⟩) (fun i => xs.length - i)
    0 (by simp) (fun i => ⟨rfl, rfl⟩) ⟨⟨rfl, rfl, rfl, trivial⟩, trivial, rfl, rfl⟩ ?_
  intro i hi
  have hge := D.mks_cnt (xs.take i) k
  refine ifd (fun h => ?_) (fun h => ?_)
  · obtain ⟨t, ht⟩ := at_some (l := l) (i := i) (by rw [← hxs] at h; simp at h; omega)
    have hx : xs[i]? = some t.d := by rw [← hxs]; simp [ht]
    have hcnt := Marking.cnt (k := k) hx
    rw [Tm.cnt_eq] at hcnt
    obtain ⟨ad, cs, hel, hcs⟩ := hsl.get i _ (D.mks_get hx k)
    have hmk := D.mks_take hx k
    have hmk2 := Tm.mk_eq t (D.mks (xs.take i) k).2
    rw [hmk2] at hcs
    obtain ⟨_, _, rfl, rfl, _, _, rfl, rfl, _, _, rfl, rfl, c7, _, rfl, h7, rfl⟩ := hcs
    have hl := Rep.len _ _ h7
    match c7, hl with
    | [v], _ =>
      have h7' := h7
      obtain ⟨b2, cap2, rfl, _⟩ := h7'.sl
      have hge2 := D.mks_cnt (t.args.map Tm.d) ((D.mks (xs.take i) k).2 + 1 + 1 + 1)
      refine elem_intro hel (ifnd (fun h => absurd rfl h) fun _ => ?_)
      refine num64 (by omega) (by omega) ?_
      refine elem_intro hel (ifnd (fun h => absurd rfl h) fun _ => ?_)
      refine num64 (by omega) (by omega) ?_
      refine elem_intro hel ?_
      refine call_gives (markText_spec _ (by omega)) ?_
      refine ifnd (fun h => absurd rfl h) fun _ => ?_
      refine num64 (by omega) (by omega) ?_
      refine elem_intro hel ?_
      refine call_gives (he t (mem_at ht) h7 (by omega) (by omega)) ?_
      refine ifd (fun h => absurd h (by omega)) (fun _ => ?_)
      refine num64 (by omega) (by omega) ?_
      exact ⟨i + 1, by omega, by omega, ⟨⟨rfl, by rw [hmk, hmk2]; rfl, rfl, trivial⟩, trivial, rfl, rfl⟩⟩
  · have hi' : i = xs.length := by omega
    subst hi'
    rw [List.take_length]
    exact ret_gives rfl rfl
theorem heldTermS_spec {l : List Tm} {v : Value} {k : Int} (ho : RepV μ (.sl 4 (D.mks (l.map Tm.d) k).1) v) (hk : 0 ≤ k) (hk2 : k + D.cnts (l.map Tm.d) ≤ 9223372036854775807) :
    Gives Try.prog 81 [v, .int .i64 k] μ (.int .i64 (D.mks (l.map Tm.d) k).2) :=
  Tm.ind (p := fun t => ∀ {v : Value} {k : Int}, RepV μ (.sl 4 (D.mks (t.args.map Tm.d) k).1) v → 0 ≤ k → k + D.cnts (t.args.map Tm.d) ≤ 9223372036854775807 →
      Gives Try.prog 81 [v, .int .i64 k] μ (.int .i64 (D.mks (t.args.map Tm.d) k).2))
    (fun _ _ _ _ ih _ _ => heldTermS_of fun t ht _ _ => ih t ht) (.mk 0 0 ⟨#[]⟩ l) ho hk hk2
theorem Tm.mt_eq (t : Tm) (k : Int) : t.d.mt k = (.st [.i t.kind, .i t.num, .s t.name, .sl 4 (D.mks (t.args.map Tm.d) k).1], (D.mks (t.args.map Tm.d) k).2) := by
  rw [Tm.d_eq]; simp [D.mt, D.mts]
theorem markTerm_spec (t : Tm) {h : Mem} {v : Value} {k : Int} (ho : OwnV t.d h v) (hk : 0 ≤ k) (hk2 : k + D.cnts (t.args.map Tm.d) ≤ 9223372036854775807) :
    SpecH Try.prog 41 [v, .int .i64 k] μ h fun r μ' h' => r = .int .i64 (t.d.mt k).2 ∧ μ' = μ ∧ OwnV (t.d.mt k).1 h' v := by
  have ho2 : ∃ cs, v = .agg (List.toArray cs) ∧ Own t.d h cs := by rw [Tm.d_eq] at ho ⊢; exact ho
  obtain ⟨cs, rfl, ho2⟩ := ho2
  obtain ⟨v, rfl, hv⟩ := Tm.own ho2
  obtain ⟨b2, cap2, rfl⟩ := OwnV.slice hv
  refine SpecH.mk [] Try.func41 (by kernel_rfl) ?_
  intro r
  refine call_own (markTermS_spec hv hk hk2) fun v μ' h' hle hap hR => ?_
  obtain ⟨rfl, rfl, ho⟩ := hR
  rw [Tm.mt_eq]
  exact ret_plain ⟨rfl, rfl, _, rfl, OwnS.int (OwnS.int (OwnS.str (OwnS.last ho)))⟩
/-! ### Bindings -/
theorem Bd.own {b : Bd} {h : Mem} {cs : List Value} (k : Own b.d h cs) : ∃ v, cs = [.int .i64 b.var, .int .i64 b.to.kind, .int .i64 b.to.num, .string b.to.name, v] ∧ OwnV (.sl 4 (b.to.args.map Tm.d)) h v := by
  obtain ⟨c1, c2, h1, h2, rfl, p, ⟨rfl, rfl⟩, c3, c4, h3, h4, rfl, q, k3, rfl, rfl⟩ := k
  obtain rfl := p.eq (Parts.nil_left _)
  obtain rfl := q.eq (Parts.nil_right _)
  obtain ⟨v, rfl, hv⟩ := Tm.own k3
  exact ⟨v, by simp, hv⟩
theorem Bd.mk_eq (b : Bd) (k : Int) : b.d.mk k = (.st [.i k, .st [.i (k + 1), .i (k + 1 + 1), .s (mtext (k + 1 + 1 + 1)), .sl 4 (D.mks (b.to.args.map Tm.d) (k + 1 + 1 + 1 + 1)).1]], (D.mks (b.to.args.map Tm.d) (k + 1 + 1 + 1 + 1)).2) := by
  simp only [Bd.d, D.mk, D.mks, Tm.mk_eq]
theorem Bd.cnt_eq (b : Bd) : b.d.cnt = 4 + D.cnts (b.to.args.map Tm.d) := by
  simp only [Bd.d, D.cnt, D.cnts, Tm.cnt_eq]; omega
theorem markBindingS_spec {l : List Bd} {h : Mem} {v : Value} {k : Int} (ho : OwnV (.sl 5 (l.map Bd.d)) h v) (hk : 0 ≤ k) (hk2 : k + D.cnts (l.map Bd.d) ≤ 9223372036854775807) :
    SpecH Try.prog 27 [v, .int .i64 k] μ h fun r μ' h' => r = .int .i64 (D.mks (l.map Bd.d) k).2 ∧ μ' = μ ∧ OwnV (.sl 5 (D.mks (l.map Bd.d) k).1) h' v := by
  obtain ⟨base, cap, e, hm, hn, ho⟩ := ho
  simp only [List.cons.injEq, and_true] at e
  subst e
  have hm' : (l.map Bd.d).length ≤ 9223372036854775807 := Nat.le_trans hm.max (by decide)
  refine SpecH.mk [] Try.func27 (by kernel_rfl) ?_
  rcases ho with ⟨hnil, rfl⟩ | ⟨r, flat, rest, ty, h2, rfl, hr, rfl, ho⟩
  · rw [hnil]
    refine loop_intro (fun i : Nat => i = 0) (fun i => ⟨[(0, .val (.slice base 0 cap)), (1, .val (.int .i64 k)), (5, .val (.int .i64 i))], [], 0, μ, Mem.nil⟩) (fun i => 0 - i)
      0 rfl (fun i => ⟨rfl, rfl⟩) ⟨⟨rfl, rfl, rfl, trivial⟩, trivial, rfl, rfl⟩ ?_
    rintro i rfl
    refine ifd (fun h => by omega) (fun h => ret_plain ⟨rfl, rfl, base, cap, rfl, ⟨Nat.zero_le _, Nat.zero_le _⟩, by simp [D.mks], .inl ⟨rfl, rfl⟩⟩)
  · generalize hxs : l.map Bd.d = xs at *
    refine loop_intro (fun p : Nat × List Value × List Value × Mem => Marking xs k rest r p.1 p.2.1 p.2.2.1 p.2.2.2)
      (fun (i, pre, tail, hh) => ⟨[(0, .val (.slice (some ⟨r, 0, none⟩) xs.length cap)), (1, .val (.int .i64 (D.mks (xs.take i) k).2)), (5, .val (.int .i64 i))], [], 0, μ, hh.set r (.cells (List.toArray (pre ++ tail)) ty (0, 0))⟩) (fun p => xs.length - p.1)
      (0, [], flat ++ rest, h2) (Marking.start hr ho) (fun (_, _, _, _) => ⟨rfl, rfl⟩) ⟨⟨rfl, rfl, rfl, trivial⟩, trivial, rfl, rfl⟩ ?_
    rintro ⟨i, pre, tail, hh⟩ M
    dsimp only at M
    have hi := M.le
    have hge := D.mks_cnt (xs.take i) k
    refine ifd (fun h => ?_) (fun h => ?_)
    · obtain ⟨t, ht⟩ := at_some (l := l) (i := i) (by rw [← hxs] at h; simp at h; omega)
      have hx : xs[i]? = some t.d := by rw [← hxs]; simp [ht]
      obtain ⟨c, g, m, c2, rfl, hown, hp, hmr, back⟩ := M.next hx
      obtain ⟨v, rfl, hv⟩ := Bd.own hown
      obtain ⟨b2, cap2, rfl⟩ := OwnV.slice hv
      have hlen := M.len hn
      have hcnt := Marking.cnt (k := k) hx
      rw [Bd.cnt_eq] at hcnt
      refine ptr_intro ⟨r, 0, none⟩ rfl (by omega) (by omega) ?_
      refine sto_at (j := 0) (by simp [Addr.add_lit', hlen]) (by simp) ?_
      refine num64 (by omega) (by omega) ?_
      refine ptr_intro ⟨r, 0, none⟩ rfl (by omega) (by omega) ?_
      refine sto_at (j := 1) (by simp [Addr.add_lit', hlen]) (by simp) ?_
      refine num64 (by omega) (by omega) ?_
      refine ptr_intro ⟨r, 0, none⟩ rfl (by omega) (by omega) ?_
      refine sto_at (j := 2) (by simp [Addr.add_lit', hlen]) (by simp) ?_
      refine num64 (by omega) (by omega) ?_
      refine call_gives (markText_spec _ (by omega)) ?_
      refine ptr_intro ⟨r, 0, none⟩ rfl (by omega) (by omega) ?_
      refine sto_at (j := 3) (by simp [Addr.add_lit', hlen]) (by simp) ?_
      refine num64 (by omega) (by omega) ?_
      refine ptr_intro ⟨r, 0, none⟩ rfl (by omega) (by omega) ?_
      refine own_at (j := 4) (by simp [Addr.add_lit', hlen]) rfl ?_
      refine call_own (SpecH.frame (hp.set M.out) (markTermS_spec hv (by omega) (by omega))) fun v μ' H' hle hap hR => ?_
      obtain ⟨h', ⟨rfl, rfl, ho'⟩, hp'⟩ := hR
      obtain ⟨a1, a2, rfl⟩ := back_of hmr hp'
      have hmk := D.mks_take hx k
      have hmk2 := Bd.mk_eq t (D.mks (xs.take i) k).2
      refine num64 (by omega) (by omega) ⟨(i + 1, pre ++ [.int .i64 (D.mks (xs.take i) k).2, .int .i64 ((D.mks (xs.take i) k).2 + 1), .int .i64 ((D.mks (xs.take i) k).2 + 1 + 1), .string (mtext ((D.mks (xs.take i) k).2 + 1 + 1 + 1)), .slice b2 (t.to.args.map Tm.d).length cap2], c2 ++ rest, h'.join m), back _ _ a1 a2 ?_, by dsimp only; omega, ⟨⟨rfl, ?_, rfl, trivial⟩, trivial, rfl, ?_⟩⟩
      · rw [hmk2]
        exact OwnS.int (OwnS.last (OwnS.int (OwnS.int (OwnS.str (OwnS.last ho')))))
      · rw [hmk, hmk2]
        rfl
      · simp
    · have hi' : i = xs.length := by omega
      subst hi'
      obtain ⟨rfl, o1⟩ := M.last
      refine ret_plain ⟨by rw [List.take_length], rfl, some ⟨r, 0, none⟩, cap, by rw [D.mks_length], by rw [D.mks_length]; exact hm, D.mks_size k hn, .inr ⟨r, pre, tail, ty, hh, rfl, M.out, rfl, o1⟩⟩
end
end Go.Vx

/- Contracts: copies; the reference's Instantiate. -/
namespace Go.Vx
open Go.Proofs Classical
theorem T.d_eq (x : T) : x.tm.d = .st [.i x.tm.kind, .i x.tm.num, .s x.tm.name, .sl 4 ((x.args.map T.tm).map Tm.d)] := by
  rw [Tm.d_eq, T.tm_args]
theorem T.inv {μ : Mem} {x : T} {w : Value} (hw : RepV μ x.tm.d w) : ∃ base cap, w = .agg #[.int .i64 x.tm.kind, .int .i64 x.tm.num, .string x.tm.name, .slice base x.args.length cap] ∧ Sl μ 4 base x.args.length ((x.args.map T.tm).map Tm.d) := by
  have h1 := Tm.inv (k := x.tm.kind) (n := x.tm.num) (s := x.tm.name) (l := x.tm.args) (v := w) (by cases x <;> exact hw)
  rw [T.tm_args, List.length_map] at h1
  exact h1
theorem T.args_le (x : T) : x.args.length ≤ 2 := by cases x <;> simp [T.args]
theorem l02Copy_spec : ∀ (x : T) {μ : Mem} {v : Value}, RepV μ x.tm.d v → Spec Try.prog 141 [v] μ fun v μ' => RepV μ' x.tm.d v :=
  T.ind fun x ih μ v hv => by
    obtain ⟨base, cap, rfl, hsl⟩ := T.inv hv
    have hn := T.args_le x
    refine Spec.mk Try.func141 (by kernel_rfl) ?_
    intro r1 r2 r3
    refine loop_nil (fun p : Nat × Option Nat × Nat × List Value × Mem => p.1 ≤ x.args.length ∧ μ.Le p.2.2.2.2 ∧ Rows p.2.2.2.2 4 (((x.args.take p.1).map T.tm).map Tm.d) p.2.2.2.1)
      (fun (i, b, c, ys, μ') => ⟨[(2, .loc 1 r2 0), (3, .loc 2 r3 0), (14, .val (.slice base x.args.length cap)), (15, .val (.int .i64 x.args.length)), (16, .val (.int .i64 i))],
        [(1, some (.cells r2 [.val (.int .i64 0), .val (.int .i64 0), .val (.string ⟨#[]⟩), .val (.slice none 0 0)] 66)), (2, some (.cells r3 [.val (.int .i64 x.tm.kind), .val (.int .i64 x.tm.num), .val (.string x.tm.name), .row 3 b ys.length c] 66)), (3, some (.row b c 66 4 ys))], 4, μ', Mem.nil⟩) (fun p => x.args.length - p.1)
      (0, none, 0, [], μ) ⟨by simp, Mem.Le.refl μ, .nil⟩ (fun (_, _, _, _, _) => ⟨rfl, rfl⟩) ⟨⟨⟨_, rfl, .inl rfl⟩, ⟨_, rfl, .inl rfl⟩, ⟨_, rfl, .inl rfl⟩, ⟨_, rfl, .inl rfl⟩, ⟨_, rfl, .inl rfl⟩, trivial⟩, ⟨.inl rfl, .inr (.inr ⟨_, _, _, _, rfl, rfl, .inl rfl, .inl rfl, .inl rfl, .inr ⟨3, rfl, rfl, Nat.le_refl _⟩, trivial⟩), .inr (.inl ⟨_, _, rfl, Nat.le_refl _⟩), trivial⟩, rfl, rfl⟩ ?_
    rintro ⟨i, b, c, ys, μ'⟩ ⟨hi, hle, hrows⟩
    dsimp only at hi hle hrows
    have hlen := hrows.len
    simp only [List.length_map, List.length_take] at hlen
    refine ifd (fun h => ?_) (fun h => ?_)
    · obtain ⟨t, ht⟩ := at_some (l := x.args) (i := i) (by omega)
      have ht' : (x.args.map T.tm)[i]? = some t.tm := by simp [ht]
      obtain ⟨ad, p, hel, hr⟩ := Tm.elem (hsl.mono hle) ht'
      refine elem_intro hel ?_
      intro r4
      refine call_plain (ih t (mem_at ht) hr) fun v' μ'' hle2 hR => ?_
      obtain ⟨q, rfl⟩ := Tm.invV hR
      intro r5
      refine grow_intro ?_ ?_ fun b' c' _ => ?_
      · show (ys.length + 1) * 56 ≤ _; omega
      · show ys.length + 1 ≤ 9223372036854775807; omega
      have hsucc : ((x.args.take (i + 1)).map T.tm).map Tm.d = ((x.args.take i).map T.tm).map Tm.d ++ [t.tm.d] := by
        rw [List.take_add_one, ht, Option.toList_some]; simp
      exact num64 (by omega) (by omega) ⟨(i + 1, b', c', _, μ''), ⟨by dsimp only; omega, hle.trans hle2, by rw [hsucc]; exact (hrows.mono hle2).append (Rows.one hR (Tm.d_n _))⟩, by dsimp only; omega, ⟨⟨rfl, rfl, rfl, rfl, rfl, trivial⟩, ⟨rfl, rfl, rfl, trivial⟩, rfl, rfl⟩⟩
    · obtain rfl : i = x.args.length := by omega
      rw [List.take_length] at hrows
      refine ret_frz [3] fun μ2 hle2 hno hrow => .inl ?_
      rw [T.d_eq]
      exact ⟨_, rfl, RepS.int (RepS.int (RepS.str (RepS.last (Rows.sl hrow (hrows.mono hle2) (Nat.le_trans (m := 10) (by omega) (by decide))))))⟩
end Go.Vx

/- Contracts: the program's substitutions: pairs, copies, mapped variables. -/
namespace Go.Vx
open Go.Proofs Classical
section
variable {μ : Mem}
theorem T.leaf_own {x : T} {v : Value} (h : x.args = []) (hv : RepV μ x.tm.d v) : OwnV x.tm.d Mem.nil v := by
  obtain ⟨base, cap, rfl, _⟩ := T.inv hv
  rw [T.d_eq, h]
  rw [T.d_eq, h] at hv
  obtain ⟨cs, e, h1⟩ := hv
  obtain ⟨_, _, rfl, rfl, _, _, rfl, rfl, _, _, rfl, rfl, _, _, rfl, h7, rfl⟩ := h1
  obtain ⟨b, c, rfl, hl, _, _⟩ := h7
  exact ⟨_, e, OwnS.int (OwnS.int (OwnS.str (OwnS.last ⟨b, c, rfl, hl, by simp, .inl ⟨rfl, rfl⟩⟩)))⟩
theorem T.leaf_fresh {x : T} {v : Value} {μ' : Mem} (h : x.args = []) (hv : RepV μ x.tm.d v) : Fresh μ μ' x.tm.d v := ⟨Mem.nil, T.leaf_own h hv, (fun _ _ h => nomatch h), fun _ h => absurd rfl h⟩
/-- Two data of one's own make a row of one's own. -/
theorem two_fresh {μ1 μ2 : Mem} {a b : D} {va vb : Value} (na : a.n = 4) (nb : b.n = 4) (h1 : μ.Le μ1) (h2 : μ1.Le μ2) (ha : Fresh μ μ1 a va) (hb : Fresh μ1 μ2 b vb) : ∃ g, OwnRows 4 [a, b] [va, vb] g ∧ g.Le μ2 ∧ ∀ x, g x ≠ none → μ x = none := by
  obtain ⟨ga, a1, a2, a3⟩ := ha
  obtain ⟨gb, b1, b2, b3⟩ := hb
  have hap := fresh_apart a2 b3
  have k1 := (OwnRows.nil 4).snoc a1 na (Apart.nil_left _)
  have k2 := k1.snoc b1 nb (fun x hx => hap x (by
    rcases join_ne hx with h | h
    · exact absurd rfl h
    · exact h))
  refine ⟨_, k2, join_le (join_le (fun _ _ h => nomatch h) (a2.trans h2)) b2, fun x hx => ?_⟩
  rcases join_ne hx with h | h
  · rcases join_ne h with h | h
    · exact absurd rfl h
    · exact a3 x h
  · cases h0 : μ x with
    | none => rfl
    | some o => have := b3 x h; rw [h1 x o h0] at this; cases this
theorem pair_spec {a b : T} {va vb : Value} {μ0 g : Mem} (ha : RepV μ a.tm.d va) (hb : RepV μ b.tm.d vb) (hg : OwnRows 4 [a.tm.d, b.tm.d] [va, vb] g) (h1 : g.Le μ) (h2 : ∀ x, g x ≠ none → μ0 x = none) (h3 : μ0.Le μ) :
    Spec Try.prog 221 [va, vb] μ fun v μ' => Fresh μ0 μ' (T.pair a b).tm.d v := by
  obtain ⟨p, rfl⟩ := Tm.invV ha
  obtain ⟨q, rfl⟩ := Tm.invV hb
  refine Spec.mk Try.func221 (by kernel_rfl) ?_
  intro r1 r2 r3 r4
  refine ret_frz [3] fun μ' hle hno hrow => .inl ?_
  have hf := Fresh.ofRow hg h1 h2 h3 hle hno hrow (show 2 ≤ maxLen by decide)
  obtain ⟨gg, k1, k2, k3⟩ := hf
  rw [T.d_eq]
  exact ⟨gg, ⟨_, rfl, OwnS.int (OwnS.int (OwnS.str (OwnS.last k1)))⟩, k2, k3⟩
theorem copyTerm_spec : ∀ (x : T) {μ : Mem} {v : Value}, RepV μ x.tm.d v → Spec Try.prog 76 [v] μ fun v μ' => Fresh μ μ' x.tm.d v := by
  intro x
  induction x with
  | pair a b iha ihb =>
    intro μ v hv
    obtain ⟨base', cap', rfl, hsa⟩ := Tm.inv hv
    obtain ⟨ad, ad', p, p', h1, h2, hra, hrb⟩ := T.parts hsa
    refine Spec.mk Try.func76 (by kernel_rfl) ?_
    intro r1 r2
    refine ifnd (fun h => absurd rfl h) (fun _ => ?_)
    refine elem_intro h1 ?_
    refine elem_intro h2 ?_
    refine call_plain (iha hra) fun v1 μ1 hle1 hR1 => ?_
    refine call_plain (ihb (hrb.mono hle1)) fun v2 μ2 hle2 hR2 => ?_
    obtain ⟨g, k1, k2, k3⟩ := two_fresh (Tm.d_n _) (Tm.d_n _) hle1 hle2 hR1 hR2
    obtain ⟨q1, rfl⟩ := Tm.invV hR1.rep
    obtain ⟨q2, rfl⟩ := Tm.invV hR2.rep
    intro r3
    refine ret_frz [2] fun μ' hle hno hrow => .inl ?_
    obtain ⟨gg, g1, g2, g3⟩ := Fresh.ofRow k1 k2 k3 (hle1.trans hle2) hle hno hrow (show 2 ≤ maxLen by decide)
    rw [T.d_eq]
    exact ⟨gg, ⟨_, rfl, OwnS.int (OwnS.int (OwnS.str (OwnS.last g1)))⟩, g2, g3⟩
  | _ =>
    intro μ v hv
    obtain ⟨base', cap', rfl, hsa⟩ := Tm.inv hv
    refine Spec.mk Try.func76 (by kernel_rfl) ?_
    intro r1 r2
    refine ifnd (fun _ => ?_) (fun h => absurd h (by simp))
    refine ret_plain ?_
    rw [T.d_eq]
    exact ⟨Mem.nil, ⟨_, rfl, OwnS.int (OwnS.int (OwnS.str (OwnS.last (Own.nilSl 4))))⟩, (fun _ _ h => nomatch h), fun _ h => absurd rfl h⟩
/-- A closure that looks variables up. -/
def Looks (k : FuncId) (caps : List Value) (μ : Mem) (f : Int → Option T) : Prop :=
  ∀ μ', μ.Le μ' → ∀ n, Spec Try.prog k (.int .i64 n :: caps) μ' fun v μ'' => optV (fun y tv => RepV μ'' y.tm.d tv) (f n) v
theorem mapVars_spec {k : FuncId} {caps : List Value} {f : Int → Option T} : ∀ (x : T) {μ : Mem} {v : Value}, Looks k caps μ f → RepV μ x.tm.d v →
    Spec Try.prog 198 [v, .func (.func k) #[] caps.toArray] μ fun v μ' => Fresh μ μ' (x.subst f).tm.d v := by
  intro x
  induction x with
  | var n =>
    intro μ v hk hv
    obtain ⟨p, rfl⟩ := Tm.invV hv
    refine Spec.mk Try.func198 (by kernel_rfl) ?_
    intro r1 r2
    refine ifd (fun _ => ?_) (fun h => absurd rfl h)
    refine call_plain (hk μ (Mem.Le.refl μ) n) fun v' μ' hle hR => ?_
    simp only [T.subst]
    cases hs : f n with
    | some y =>
      rw [hs] at hR
      obtain ⟨tv, rfl, htv⟩ := hR
      obtain ⟨q, rfl⟩ := Tm.invV htv
      intro r3
      refine if_intro (fun _ => ?_) (fun h => nomatch h)
      refine call_plain (copyTerm_spec y htv) fun v2 μ2 hle2 hR2 => ?_
      obtain ⟨q2, rfl⟩ := Tm.invV hR2.rep
      exact ret_plain (hR2.mono hle (Mem.Le.refl _))
    | none =>
      rw [hs] at hR
      obtain rfl := hR
      intro r3
      refine if_intro (fun h => nomatch h) (fun _ => ?_)
      exact ret_plain (T.leaf_fresh rfl hv)
  | pair a b iha ihb =>
    intro μ v hk hv
    obtain ⟨base', cap', rfl, hsa⟩ := Tm.inv hv
    obtain ⟨ad, ad', p, p', h1, h2, hra, hrb⟩ := T.parts hsa
    refine Spec.mk Try.func198 (by kernel_rfl) ?_
    intro r1 r2
    refine ifd (fun h => absurd h (by simp)) (fun _ => ?_)
    refine ifd (fun _ => ?_) (fun h => absurd rfl h)
    refine elem_intro h1 ?_
    refine elem_intro h2 ?_
    refine call_plain (iha hk hra) fun v1 μ1 hle1 hR1 => ?_
    refine call_plain (ihb (fun μ' h => hk μ' (hle1.trans h)) (hrb.mono hle1)) fun v2 μ2 hle2 hR2 => ?_
    obtain ⟨g, k1, k2, k3⟩ := two_fresh (Tm.d_n _) (Tm.d_n _) hle1 hle2 hR1 hR2
    refine call_plain (pair_spec (hR1.rep.mono hle2) hR2.rep k1 k2 k3 (hle1.trans hle2)) fun v3 μ3 hle3 hR3 => ?_
    obtain ⟨q, rfl⟩ := Tm.invV hR3.rep
    exact ret_plain hR3
  | _ =>
    intro μ v hk hv
    obtain ⟨p, rfl⟩ := Tm.invV hv
    refine Spec.mk Try.func198 (by kernel_rfl) ?_
    intro r1 r2
    refine ifd (fun h => absurd h (by simp [T.tm, Tm.kind])) (fun _ => ?_)
    refine ifd (fun h => absurd h (by simp [T.tm, Tm.kind])) (fun _ => ?_)
    exact ret_plain (T.leaf_fresh rfl hv)
end
end Go.Vx

/- Contracts: the program's substitutions: sizes, searches, values put in. -/
namespace Go.Vx
open Go.Proofs Classical
section
variable {μ : Mem}
/-- A closure that counts what a variable stands for. -/
def Counts (k : FuncId) (caps : List Value) (μ : Mem) (c : Int → Nat) : Prop := ∀ n, Gives Try.prog k (.int .i64 n :: caps) μ (.int .i64 (c n))
def cntOf (f : Int → Option T) (n : Int) : Nat := match f n with | some y => y.size | none => 1
theorem subst_var_size (f : Int → Option T) (n : Int) : ((T.var n).subst f).size = cntOf f n := by
  simp only [T.subst, cntOf]
  cases f n <;> rfl
theorem sizeWith_spec {k : FuncId} {caps : List Value} {f : Int → Option T} (hk : Counts k caps μ (cntOf f)) (hf : ∀ n, cntOf f n ≤ 5000) : ∀ (x : T) {v : Value}, RepV μ x.tm.d v →
    Gives Try.prog 196 [v, .func (.func k) #[] caps.toArray] μ (.int .i64 (min (x.subst f).size 5001 : Nat)) := by
  intro x
  induction x with
  | var n =>
    intro v hv
    obtain ⟨p, rfl⟩ := Tm.invV hv
    have := hf n
    refine Spec.mk Try.func196 (by kernel_rfl) ?_
    intro r1
    refine ifd (fun _ => ?_) (fun h => absurd rfl h)
    refine call_gives (hk n) (ret_gives ?_ rfl)
    rw [subst_var_size]
    congr 1
    show (if (5001 : Int) < (cntOf f n : Int) then (5001 : Int) else (cntOf f n : Int)) = _
    rw [if_neg (by omega)]
    omega
  | pair a b iha ihb =>
    intro v hv
    obtain ⟨base', cap', rfl, hsa⟩ := Tm.inv hv
    obtain ⟨ad, ad', p, p', h1, h2, hra, hrb⟩ := T.parts hsa
    have hs : ((T.pair a b).subst f).size = 1 + (a.subst f).size + (b.subst f).size := rfl
    refine Spec.mk Try.func196 (by kernel_rfl) ?_
    intro r1
    refine ifd (fun h => absurd h (by simp)) (fun _ => ?_)
    refine ifd (fun _ => ?_) (fun h => absurd rfl h)
    refine elem_intro h1 ?_
    refine call_gives (iha hra) ?_
    refine ifd (fun h => ret_gives ?_ rfl) (fun h => ?_)
    · rw [hs]; congr 1; omega
    · refine num64 (by omega) (by omega) ?_
      refine elem_intro h2 ?_
      refine call_gives (ihb hrb) ?_
      refine num64 (by omega) (by omega) (ret_gives ?_ rfl)
      rw [hs]
      congr 1
      split <;> omega
  | _ =>
    intro v hv
    obtain ⟨p, rfl⟩ := Tm.invV hv
    refine Spec.mk Try.func196 (by kernel_rfl) ?_
    intro r1
    refine ifd (fun h => absurd h (by simp [T.tm, Tm.kind])) (fun _ => ?_)
    refine ifd (fun h => absurd h (by simp [T.tm, Tm.kind])) (fun _ => ?_)
    exact ret_gives rfl rfl
theorem wrapu64 {n : Int} (h1 : 0 ≤ n) (h2 : n < 18446744073709551616) : IntKind.u64.wrap n = n := by
  have e : IntKind.u64.bits = 64 := rfl
  have e2 : IntKind.u64.signed = false := rfl
  simp only [IntKind.wrap, e, e2, Bool.false_and]
  simp only [show (2 : Int) ^ 64 = 18446744073709551616 from rfl]
  simp; omega
theorem Search_spec {k : FuncId} {caps : List Value} {p : Int → Prop} {n : Nat} (hn : n ≤ 1000000000) (hk : ∀ i : Nat, i < n → Gives Try.prog k (.int .i64 i :: caps) μ (.bool (decide (p i)))) :
    Spec Try.prog 144 [.int .i64 n, .func (.func k) #[] caps.toArray] μ fun v μ' => (∃ i : Nat, v = .int .i64 i ∧ i ≤ n ∧ (i < n → p i) ∧ ∀ j : Nat, j + 1 = i → ¬ p j) ∧ μ' = μ := by
  refine Spec.mk Try.func144 (by kernel_rfl) ?_
  refine loop_intro (fun q : Nat × Nat => q.1 ≤ q.2 ∧ q.2 ≤ n ∧ (q.2 < n → p q.2) ∧ ∀ j : Nat, j + 1 = q.1 → ¬ p j) (fun (i, j) => ⟨[(1, .val (.func (.func k) #[] caps.toArray)), (5, .val (.int .i64 i)), (6, .val (.int .i64 j))], [], 0, μ, Mem.nil⟩) (fun q => q.2 - q.1)
    (0, n) ⟨by simp, by simp, by simp, fun j hj => by simp at hj⟩ (fun (_, _) => ⟨rfl, rfl⟩) ⟨⟨rfl, rfl, rfl, trivial⟩, trivial, rfl, rfl⟩ ?_
  rintro ⟨i, j⟩ ⟨h1, h2, h3, h4⟩
  dsimp only at h1 h2 h3 h4
  refine ifd (fun h => ?_) (fun h => ?_)
  · refine num64 (by omega) (by omega) ?_
    refine num_eq (wrapu64 (by omega) (by omega)) ?_
    refine need_intro (by omega) ?_
    refine num_eq (x := (((i + j) / 2 : Nat) : Int)) ?_ ?_
    · show Int.fdiv ((i : Int) + j) (2 ^ (min (Int.toNat 1) 64)) = _
      rw [show min (Int.toNat 1) 64 = 1 from rfl, show (2 : Int) ^ 1 = 2 from rfl, Int.fdiv_eq_ediv_of_nonneg _ (by omega)]
      omega
    refine num64 (by omega) (by omega) ?_
    refine call_gives (hk ((i + j) / 2) (by omega)) ?_
    refine ifnd (fun hp => ?_) (fun hp => ?_)
    · refine num64 (by omega) (by omega) ⟨((i + j) / 2 + 1, j), ⟨by dsimp only; omega, h2, h3, fun m hm => ?_⟩, by dsimp only; omega, ⟨⟨rfl, rfl, rfl, trivial⟩, trivial, rfl, rfl⟩⟩
      dsimp only at hm
      obtain rfl : m = (i + j) / 2 := by omega
      exact hp
    · exact ⟨(i, (i + j) / 2), ⟨by dsimp only; omega, by dsimp only; omega, fun _ => hp, h4⟩, by dsimp only; omega, ⟨⟨rfl, rfl, rfl, trivial⟩, trivial, rfl, rfl⟩⟩
  · obtain rfl : i = j := by omega
    exact ret_plain ⟨⟨i, rfl, h2, h3, h4⟩, rfl⟩
end
end Go.Vx

/- Contracts: the program's search for a binding. -/
namespace Go.Vx
open Go.Proofs Classical
/-- Variables in order. -/
def Srt (bs : List B) : Prop := ∀ (i j : Nat) b c, i < j → bs[i]? = some b → bs[j]? = some c → b.var < c.var
section
variable {μ : Mem}
theorem B.elem {bs : List B} {base : Option Addr} {n : Nat} (h : Sl μ 5 base n ((bs.map B.bd).map Bd.d)) {i : Nat} {b : B} (hb : bs[i]? = some b) : ∃ ad, ∃ p : Option Addr × Nat, ElemAt μ base n 5 i ad (b.bd.cs p) ∧ RepV μ b.to.tm.d (.agg (b.to.tm.cs p).toArray) := by
  have hb' : (bs.map B.bd)[i]? = some b.bd := by simp [hb]
  obtain ⟨ad, p, h1, h2⟩ := Bd.elem h hb'
  exact ⟨ad, p, h1, Bd.toV h2⟩
def atLeast (bs : List B) (n : Int) (z : Int) : Prop := ∃ b, bs[z.toNat]? = some b ∧ n ≤ b.var
theorem find1_spec {bs : List B} {base : Option Addr} {cap : Nat} {n : Int} {r1 r2 : Nat} {t1 t2 : TypeId} (hsl : Sl μ 5 base bs.length ((bs.map B.bd).map Bd.d)) (h1 : μ r1 = some (.cells #[.slice base bs.length cap] t1 (0, 0))) (h2 : μ r2 = some (.cells #[.int .i64 n] t2 (0, 0))) {i : Nat} (hi : i < bs.length) :
    Gives Try.prog 145 [.int .i64 i, .pointer (some ⟨r1, 0, none⟩), .pointer (some ⟨r2, 0, none⟩)] μ (.bool (decide (atLeast bs n i))) := by
  obtain ⟨b, hb⟩ := at_some hi
  obtain ⟨ad, p, hel, _⟩ := B.elem hsl hb
  refine Spec.mk Try.func145 (by kernel_rfl) ?_
  refine ext_intro [.slice base bs.length cap] rfl (box_at h1) ?_
  refine elem_intro hel ?_
  refine ext_intro [.int .i64 n] rfl (box_at h2) ?_
  refine ret_gives (isI ?_) rfl
  constructor
  · intro h; exact ⟨b, hb, h⟩
  · rintro ⟨c, hc, h⟩
    have hc : bs[i]? = some c := hc
    rw [hb] at hc; cases hc; exact h
/-- Where a variable is bound. -/
def FindR (bs : List B) (n : Int) (v : Value) : Prop := (∃ (i : Nat) (b : B), v = .int .i64 i ∧ bs[i]? = some b ∧ b.var = n) ∨ (v = .int .i64 (-1) ∧ ∀ b ∈ bs, b.var ≠ n)
theorem find_spec {bs : List B} {base : Option Addr} {cap : Nat} {n : Int} (hs : Srt bs) (hlen : bs.length ≤ 1000000000) (hsl : Sl μ 5 base bs.length ((bs.map B.bd).map Bd.d)) :
    Spec Try.prog 75 [.slice base bs.length cap, .int .i64 n] μ fun v μ' => FindR bs n v ∧ μ' = μ := by
  refine Spec.forget (Spec.mk Try.func75 (by kernel_rfl) ?_)
  intro r1 r2
  refine call_frz [0, 1] ?_
  intro μ1 hle1 hno1 hat1 μ2 hle2 hno2 hat2
  have hsl2 := (hsl.mono hle1).mono hle2
  have e1 : μ2 r1 = some (.cells #[.slice base bs.length cap] 43 (0, 0)) := hle2 _ _ hat1
  refine call_go (Search_spec (p := atLeast bs n) hlen fun i hi => find1_spec hsl2 e1 hat2 hi) fun v μ3 hle3 hR => ?_
  obtain ⟨⟨i, rfl, g1, g2, g3⟩, rfl⟩ := hR
  have low : ∀ (j : Nat) b, j < i → bs[j]? = some b → b.var < n := fun j b hj hb => by
    obtain ⟨c, hc⟩ := at_some (l := bs) (i := i - 1) (by omega)
    have h4 : c.var < n := by
      rcases Int.lt_or_le c.var n with h | h
      · exact h
      · exact absurd ⟨c, hc, h⟩ (g3 (i - 1) (by omega))
    rcases Nat.lt_or_ge j (i - 1) with h | h
    · have := hs j (i - 1) b c h hb hc; omega
    · obtain rfl : j = i - 1 := by omega
      rw [hb] at hc; cases hc; exact h4
  have none : (∀ b, bs[i]? = some b → b.var ≠ n) → FindR bs n (.int .i64 (-1)) := fun h => .inr ⟨rfl, fun b hb => by
    obtain ⟨j, hj⟩ := List.mem_iff_getElem?.1 hb
    rcases Nat.lt_or_ge j i with h1 | h1
    · have := low j b h1 hj; omega
    · have hjl := (List.getElem?_eq_some_iff.1 hj).1
      obtain ⟨c, hc⟩ := at_some (l := bs) (i := i) (by omega)
      obtain ⟨c', hc', h2⟩ := g2 (by omega)
      have hc' : bs[i]? = some c' := hc'
      rw [hc] at hc'; cases hc'
      have := h c hc
      rcases Nat.eq_or_lt_of_le h1 with h3 | h3
      · subst h3; rw [hj] at hc; cases hc; omega
      · have := hs i j c b h3 hc hj; omega⟩
  refine ext_intro [.slice base bs.length cap] rfl (box_at e1) ?_
  refine ifd (fun h => ?_) (fun h => ?_)
  · obtain ⟨b, hb⟩ := at_some (l := bs) (i := i) (by omega)
    obtain ⟨ad, p, hel, _⟩ := B.elem hsl2 hb
    refine ext_intro [.slice base bs.length cap] rfl (box_at e1) ?_
    refine elem_intro hel ?_
    refine ext_intro [.int .i64 n] rfl (box_at hat2) ?_
    refine ifd (fun h2 => ?_) (fun h2 => ?_)
    · exact ret_plain (.inl ⟨i, b, rfl, hb, h2⟩)
    · exact ret_plain (none fun c hc => by rw [hb] at hc; cases hc; exact h2)
  · exact ret_plain (none fun c hc => absurd (List.getElem?_eq_some_iff.1 hc).1 (by omega))
end
end Go.Vx
