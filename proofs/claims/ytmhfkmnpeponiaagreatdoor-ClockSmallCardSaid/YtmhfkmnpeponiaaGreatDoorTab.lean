import Derived.Test.YtmhfkmnpeponiaaGreatDoorSatB
import Derived.Test.YtmhfkmnpeponiaaGreatDoorProg
namespace Go.Proofs.YtmhfkmnpeponiaaGreatDoor
open Go Go.RowKit Sat
set_option maxRecDepth 100000
noncomputable def Tryz.tab : TT := [
  (1, ⟨.other, 1, 8, .nilFunc⟩),
  (2, ⟨.int .i64, 1, 8, .int .i64 0⟩),
  (3, ⟨.int .i64, 1, 8, .int .i64 0⟩),
  (4, ⟨.bool, 1, 1, .bool false⟩),
  (5, ⟨.int .u8, 1, 1, .int .u8 0⟩),
  (9, ⟨.str, 1, 16, .string ⟨#[]⟩⟩),
  (12, ⟨.int .u64, 1, 8, .int .u64 0⟩),
  (13, ⟨.st [(9, 0), (12, 1)], 2, 24, .agg #[.string ⟨#[]⟩, .int .u64 0]⟩),
  (19, ⟨.st [(17, 0)], 1, 8, .agg #[.pointer none]⟩),
  (20, ⟨.ifc, 1, 16, .nilIface⟩),
  (21, ⟨.int .i32, 1, 4, .int .i32 0⟩),
  (22, ⟨.slice 3, 1, 24, .slice none 0 0⟩),
  (23, ⟨.slice 26, 1, 24, .slice none 0 0⟩),
  (24, ⟨.st [(3, 0), (3, 1)], 2, 16, .agg #[.int .i64 0, .int .i64 0]⟩),
  (25, ⟨.st [(3, 0), (3, 1)], 2, 16, .agg #[.int .i64 0, .int .i64 0]⟩),
  (26, ⟨.slice 25, 1, 24, .slice none 0 0⟩),
  (27, ⟨.other, 1, 8, .nilFunc⟩),
  (28, ⟨.st [(26, 0), (26, 1)], 2, 48, .agg #[.slice none 0 0, .slice none 0 0]⟩),
  (29, ⟨.st [(26, 0), (26, 1)], 2, 48, .agg #[.slice none 0 0, .slice none 0 0]⟩),
  (30, ⟨.other, 1, 8, .nilFunc⟩),
  (31, ⟨.other, 1, 8, .nilFunc⟩),
  (32, ⟨.other, 1, 8, .nilFunc⟩),
  (33, ⟨.other, 1, 8, .nilFunc⟩),
  (34, ⟨.st [(3, 0), (3, 1), (3, 2), (3, 3), (3, 4)], 5, 40, .agg #[.int .i64 0, .int .i64 0, .int .i64 0, .int .i64 0, .int .i64 0]⟩),
  (35, ⟨.st [(3, 0), (3, 1), (3, 2), (3, 3), (3, 4)], 5, 40, .agg #[.int .i64 0, .int .i64 0, .int .i64 0, .int .i64 0, .int .i64 0]⟩),
  (36, ⟨.other, 1, 8, .nilFunc⟩),
  (37, ⟨.other, 1, 8, .nilFunc⟩),
  (38, ⟨.slice 81, 1, 24, .slice none 0 0⟩),
  (39, ⟨.other, 1, 8, .nilFunc⟩),
  (40, ⟨.st [(38, 0), (38, 1)], 2, 48, .agg #[.slice none 0 0, .slice none 0 0]⟩),
  (41, ⟨.st [(38, 0), (38, 1)], 2, 48, .agg #[.slice none 0 0, .slice none 0 0]⟩),
  (42, ⟨.other, 1, 8, .nilFunc⟩),
  (43, ⟨.int .i64, 1, 8, .int .i64 0⟩),
  (45, ⟨.other, 1, 8, .nilFunc⟩),
  (47, ⟨.other, 1, 8, .nilFunc⟩),
  (49, ⟨.other, 1, 8, .nilFunc⟩),
  (51, ⟨.other, 1, 8, .nilFunc⟩),
  (52, ⟨.other, 1, 8, .nilFunc⟩),
  (53, ⟨.other, 1, 8, .nilFunc⟩),
  (54, ⟨.other, 1, 8, .nilFunc⟩),
  (55, ⟨.other, 1, 8, .nilFunc⟩),
  (56, ⟨.other, 1, 8, .nilFunc⟩),
  (57, ⟨.other, 1, 8, .nilFunc⟩),
  (59, ⟨.other, 1, 8, .nilFunc⟩),
  (60, ⟨.other, 1, 8, .nilFunc⟩),
  (62, ⟨.other, 1, 8, .nilFunc⟩),
  (63, ⟨.other, 1, 8, .nilFunc⟩),
  (64, ⟨.other, 1, 8, .nilFunc⟩),
  (66, ⟨.other, 1, 8, .nilFunc⟩),
  (68, ⟨.other, 1, 8, .nilFunc⟩),
  (69, ⟨.other, 1, 8, .nilFunc⟩),
  (70, ⟨.other, 1, 8, .nilFunc⟩),
  (71, ⟨.st [(3, 0), (3, 1), (3, 2), (3, 3), (3, 4)], 5, 40, .agg #[.int .i64 0, .int .i64 0, .int .i64 0, .int .i64 0, .int .i64 0]⟩),
  (72, ⟨.other, 1, 8, .nilFunc⟩),
  (73, ⟨.other, 1, 8, .nilFunc⟩),
  (74, ⟨.other, 1, 8, .nilFunc⟩),
  (75, ⟨.other, 1, 8, .nilFunc⟩),
  (76, ⟨.other, 1, 8, .nilFunc⟩),
  (77, ⟨.other, 1, 8, .nilFunc⟩),
  (78, ⟨.slice 9, 1, 24, .slice none 0 0⟩),
  (79, ⟨.slice 5, 1, 24, .slice none 0 0⟩),
  (80, ⟨.other, 1, 8, .nilFunc⟩),
  (81, ⟨.st [(3, 0), (3, 1)], 2, 16, .agg #[.int .i64 0, .int .i64 0]⟩),
  (82, ⟨.other, 1, 8, .nilFunc⟩),
  (83, ⟨.other, 1, 8, .nilFunc⟩),
  (84, ⟨.other, 1, 8, .nilFunc⟩),
  (85, ⟨.other, 1, 8, .nilFunc⟩),
  (86, ⟨.slice 25, 1, 24, .slice none 0 0⟩),
  (87, ⟨.other, 1, 8, .nilFunc⟩),
  (88, ⟨.other, 1, 8, .nilFunc⟩),
  (89, ⟨.other, 1, 8, .nilFunc⟩),
  (90, ⟨.other, 1, 8, .nilFunc⟩),
  (91, ⟨.other, 1, 8, .nilFunc⟩),
  (92, ⟨.other, 1, 8, .nilFunc⟩),
  (93, ⟨.other, 1, 8, .nilFunc⟩),
  (94, ⟨.other, 1, 8, .nilFunc⟩),
  (95, ⟨.other, 1, 8, .nilFunc⟩),
  (96, ⟨.other, 1, 8, .nilFunc⟩),
  (97, ⟨.arr 7 9, 7, 112, .agg #[.string ⟨#[]⟩, .string ⟨#[]⟩, .string ⟨#[]⟩, .string ⟨#[]⟩, .string ⟨#[]⟩, .string ⟨#[]⟩, .string ⟨#[]⟩]⟩),
  (98, ⟨.other, 1, 8, .nilFunc⟩),
  (99, ⟨.ifc, 1, 16, .nilIface⟩),
  (100, ⟨.ifc, 1, 16, .nilIface⟩),
  (102, ⟨.other, 1, 8, .nilFunc⟩),
  (103, ⟨.other, 1, 8, .nilFunc⟩),
  (104, ⟨.other, 1, 8, .nilFunc⟩),
  (105, ⟨.other, 1, 8, .nilFunc⟩),
  (107, ⟨.other, 1, 8, .nilFunc⟩),
  (108, ⟨.other, 1, 8, .nilFunc⟩),
  (109, ⟨.other, 1, 8, .nilFunc⟩),
  (110, ⟨.ptr 86, 1, 8, .pointer none⟩),
  (111, ⟨.other, 1, 8, .nilFunc⟩),
  (112, ⟨.other, 1, 8, .nilFunc⟩),
  (113, ⟨.int .u64, 1, 8, .int .u64 0⟩),
  (114, ⟨.other, 1, 8, .nilFunc⟩),
  (115, ⟨.other, 1, 8, .nilFunc⟩),
  (116, ⟨.other, 1, 8, .nilFunc⟩),
  (117, ⟨.int .i64, 1, 8, .int .i64 0⟩),
  (119, ⟨.other, 1, 8, .nilFunc⟩),
  (120, ⟨.ptr 137, 1, 8, .pointer none⟩),
  (121, ⟨.other, 1, 8, .nilFunc⟩),
  (122, ⟨.other, 1, 8, .nilFunc⟩),
  (123, ⟨.arr 24 5, 24, 24, .agg #[.int .u8 0, .int .u8 0, .int .u8 0, .int .u8 0, .int .u8 0, .int .u8 0, .int .u8 0, .int .u8 0, .int .u8 0, .int .u8 0, .int .u8 0, .int .u8 0, .int .u8 0, .int .u8 0, .int .u8 0, .int .u8 0, .int .u8 0, .int .u8 0, .int .u8 0, .int .u8 0, .int .u8 0, .int .u8 0, .int .u8 0, .int .u8 0]⟩),
  (124, ⟨.int .u64, 1, 8, .int .u64 0⟩),
  (125, ⟨.other, 1, 8, .nilFunc⟩),
  (126, ⟨.other, 1, 8, .nilFunc⟩),
  (128, ⟨.other, 1, 8, .nilFunc⟩),
  (129, ⟨.other, 1, 8, .nilFunc⟩),
  (131, ⟨.other, 1, 8, .nilFunc⟩),
  (132, ⟨.other, 1, 8, .nilFunc⟩),
  (134, ⟨.other, 1, 8, .nilFunc⟩),
  (135, ⟨.other, 1, 8, .nilFunc⟩),
  (136, ⟨.st [(9, 0), (9, 1), (100, 2)], 3, 48, .agg #[.string ⟨#[]⟩, .string ⟨#[]⟩, .nilIface]⟩),
  (137, ⟨.st [(9, 0), (9, 1), (100, 2)], 3, 48, .agg #[.string ⟨#[]⟩, .string ⟨#[]⟩, .nilIface]⟩),
  (138, ⟨.other, 1, 8, .nilFunc⟩),
  (139, ⟨.other, 1, 8, .nilFunc⟩),
  (140, ⟨.arr 20 124, 20, 160, .agg #[.int .u64 0, .int .u64 0, .int .u64 0, .int .u64 0, .int .u64 0, .int .u64 0, .int .u64 0, .int .u64 0, .int .u64 0, .int .u64 0, .int .u64 0, .int .u64 0, .int .u64 0, .int .u64 0, .int .u64 0, .int .u64 0, .int .u64 0, .int .u64 0, .int .u64 0, .int .u64 0]⟩),
  (141, ⟨.int .u32, 1, 4, .int .u32 0⟩),
  (142, ⟨.arr 65 5, 65, 65, .agg #[.int .u8 0, .int .u8 0, .int .u8 0, .int .u8 0, .int .u8 0, .int .u8 0, .int .u8 0, .int .u8 0, .int .u8 0, .int .u8 0, .int .u8 0, .int .u8 0, .int .u8 0, .int .u8 0, .int .u8 0, .int .u8 0, .int .u8 0, .int .u8 0, .int .u8 0, .int .u8 0, .int .u8 0, .int .u8 0, .int .u8 0, .int .u8 0, .int .u8 0, .int .u8 0, .int .u8 0, .int .u8 0, .int .u8 0, .int .u8 0, .int .u8 0, .int .u8 0, .int .u8 0, .int .u8 0, .int .u8 0, .int .u8 0, .int .u8 0, .int .u8 0, .int .u8 0, .int .u8 0, .int .u8 0, .int .u8 0, .int .u8 0, .int .u8 0, .int .u8 0, .int .u8 0, .int .u8 0, .int .u8 0, .int .u8 0, .int .u8 0, .int .u8 0, .int .u8 0, .int .u8 0, .int .u8 0, .int .u8 0, .int .u8 0, .int .u8 0, .int .u8 0, .int .u8 0, .int .u8 0, .int .u8 0, .int .u8 0, .int .u8 0, .int .u8 0, .int .u8 0]⟩),
  (143, ⟨.other, 1, 8, .nilFunc⟩),
  (144, ⟨.other, 1, 8, .nilFunc⟩),
  (145, ⟨.other, 1, 8, .nilFunc⟩),
  (146, ⟨.ptr 5, 1, 8, .pointer none⟩),
  (147, ⟨.ptr 149, 1, 8, .pointer none⟩),
  (148, ⟨.st [(9, 0)], 1, 16, .agg #[.string ⟨#[]⟩]⟩),
  (149, ⟨.st [(9, 0)], 1, 16, .agg #[.string ⟨#[]⟩]⟩),
  (150, ⟨.other, 1, 8, .nilFunc⟩),
  (151, ⟨.arr 256 5, 256, 256, .agg #[.int .u8 0, .int .u8 0, .int .u8 0, .int .u8 0, .int .u8 0, .int .u8 0, .int .u8 0, .int .u8 0, .int .u8 0, .int .u8 0, .int .u8 0, .int .u8 0, .int .u8 0, .int .u8 0, .int .u8 0, .int .u8 0, .int .u8 0, .int .u8 0, .int .u8 0, .int .u8 0, .int .u8 0, .int .u8 0, .int .u8 0, .int .u8 0, .int .u8 0, .int .u8 0, .int .u8 0, .int .u8 0, .int .u8 0, .int .u8 0, .int .u8 0, .int .u8 0, .int .u8 0, .int .u8 0, .int .u8 0, .int .u8 0, .int .u8 0, .int .u8 0, .int .u8 0, .int .u8 0, .int .u8 0, .int .u8 0, .int .u8 0, .int .u8 0, .int .u8 0, .int .u8 0, .int .u8 0, .int .u8 0, .int .u8 0, .int .u8 0, .int .u8 0, .int .u8 0, .int .u8 0, .int .u8 0, .int .u8 0, .int .u8 0, .int .u8 0, .int .u8 0, .int .u8 0, .int .u8 0, .int .u8 0, .int .u8 0, .int .u8 0, .int .u8 0, .int .u8 0, .int .u8 0, .int .u8 0, .int .u8 0, .int .u8 0, .int .u8 0, .int .u8 0, .int .u8 0, .int .u8 0, .int .u8 0, .int .u8 0, .int .u8 0, .int .u8 0, .int .u8 0, .int .u8 0, .int .u8 0, .int .u8 0, .int .u8 0, .int .u8 0, .int .u8 0, .int .u8 0, .int .u8 0, .int .u8 0, .int .u8 0, .int .u8 0, .int .u8 0, .int .u8 0, .int .u8 0, .int .u8 0, .int .u8 0, .int .u8 0, .int .u8 0, .int .u8 0, .int .u8 0, .int .u8 0, .int .u8 0, .int .u8 0, .int .u8 0, .int .u8 0, .int .u8 0, .int .u8 0, .int .u8 0, .int .u8 0, .int .u8 0, .int .u8 0, .int .u8 0, .int .u8 0, .int .u8 0, .int .u8 0, .int .u8 0, .int .u8 0, .int .u8 0, .int .u8 0, .int .u8 0, .int .u8 0, .int .u8 0, .int .u8 0, .int .u8 0, .int .u8 0, .int .u8 0, .int .u8 0, .int .u8 0, .int .u8 0, .int .u8 0, .int .u8 0, .int .u8 0, .int .u8 0, .int .u8 0, .int .u8 0, .int .u8 0, .int .u8 0, .int .u8 0, .int .u8 0, .int .u8 0, .int .u8 0, .int .u8 0, .int .u8 0, .int .u8 0, .int .u8 0, .int .u8 0, .int .u8 0, .int .u8 0, .int .u8 0, .int .u8 0, .int .u8 0, .int .u8 0, .int .u8 0, .int .u8 0, .int .u8 0, .int .u8 0, .int .u8 0, .int .u8 0, .int .u8 0, .int .u8 0, .int .u8 0, .int .u8 0, .int .u8 0, .int .u8 0, .int .u8 0, .int .u8 0, .int .u8 0, .int .u8 0, .int .u8 0, .int .u8 0, .int .u8 0, .int .u8 0, .int .u8 0, .int .u8 0, .int .u8 0, .int .u8 0, .int .u8 0, .int .u8 0, .int .u8 0, .int .u8 0, .int .u8 0, .int .u8 0, .int .u8 0, .int .u8 0, .int .u8 0, .int .u8 0, .int .u8 0, .int .u8 0, .int .u8 0, .int .u8 0, .int .u8 0, .int .u8 0, .int .u8 0, .int .u8 0, .int .u8 0, .int .u8 0, .int .u8 0, .int .u8 0, .int .u8 0, .int .u8 0, .int .u8 0, .int .u8 0, .int .u8 0, .int .u8 0, .int .u8 0, .int .u8 0, .int .u8 0, .int .u8 0, .int .u8 0, .int .u8 0, .int .u8 0, .int .u8 0, .int .u8 0, .int .u8 0, .int .u8 0, .int .u8 0, .int .u8 0, .int .u8 0, .int .u8 0, .int .u8 0, .int .u8 0, .int .u8 0, .int .u8 0, .int .u8 0, .int .u8 0, .int .u8 0, .int .u8 0, .int .u8 0, .int .u8 0, .int .u8 0, .int .u8 0, .int .u8 0, .int .u8 0, .int .u8 0, .int .u8 0, .int .u8 0, .int .u8 0, .int .u8 0, .int .u8 0, .int .u8 0, .int .u8 0, .int .u8 0, .int .u8 0, .int .u8 0, .int .u8 0, .int .u8 0, .int .u8 0, .int .u8 0, .int .u8 0, .int .u8 0, .int .u8 0, .int .u8 0, .int .u8 0, .int .u8 0, .int .u8 0, .int .u8 0, .int .u8 0, .int .u8 0]⟩),
  (152, ⟨.st [(5, 0), (5, 1)], 2, 2, .agg #[.int .u8 0, .int .u8 0]⟩),
  (153, ⟨.st [(5, 0), (5, 1)], 2, 2, .agg #[.int .u8 0, .int .u8 0]⟩),
  (154, ⟨.arr 16 153, 32, 32, .agg #[.int .u8 0, .int .u8 0, .int .u8 0, .int .u8 0, .int .u8 0, .int .u8 0, .int .u8 0, .int .u8 0, .int .u8 0, .int .u8 0, .int .u8 0, .int .u8 0, .int .u8 0, .int .u8 0, .int .u8 0, .int .u8 0, .int .u8 0, .int .u8 0, .int .u8 0, .int .u8 0, .int .u8 0, .int .u8 0, .int .u8 0, .int .u8 0, .int .u8 0, .int .u8 0, .int .u8 0, .int .u8 0, .int .u8 0, .int .u8 0, .int .u8 0, .int .u8 0]⟩),
  (156, ⟨.other, 1, 8, .nilFunc⟩),
  (157, ⟨.arr 32 5, 32, 32, .agg #[.int .u8 0, .int .u8 0, .int .u8 0, .int .u8 0, .int .u8 0, .int .u8 0, .int .u8 0, .int .u8 0, .int .u8 0, .int .u8 0, .int .u8 0, .int .u8 0, .int .u8 0, .int .u8 0, .int .u8 0, .int .u8 0, .int .u8 0, .int .u8 0, .int .u8 0, .int .u8 0, .int .u8 0, .int .u8 0, .int .u8 0, .int .u8 0, .int .u8 0, .int .u8 0, .int .u8 0, .int .u8 0, .int .u8 0, .int .u8 0, .int .u8 0, .int .u8 0]⟩),
  (158, ⟨.arr 64 5, 64, 64, .agg #[.int .u8 0, .int .u8 0, .int .u8 0, .int .u8 0, .int .u8 0, .int .u8 0, .int .u8 0, .int .u8 0, .int .u8 0, .int .u8 0, .int .u8 0, .int .u8 0, .int .u8 0, .int .u8 0, .int .u8 0, .int .u8 0, .int .u8 0, .int .u8 0, .int .u8 0, .int .u8 0, .int .u8 0, .int .u8 0, .int .u8 0, .int .u8 0, .int .u8 0, .int .u8 0, .int .u8 0, .int .u8 0, .int .u8 0, .int .u8 0, .int .u8 0, .int .u8 0, .int .u8 0, .int .u8 0, .int .u8 0, .int .u8 0, .int .u8 0, .int .u8 0, .int .u8 0, .int .u8 0, .int .u8 0, .int .u8 0, .int .u8 0, .int .u8 0, .int .u8 0, .int .u8 0, .int .u8 0, .int .u8 0, .int .u8 0, .int .u8 0, .int .u8 0, .int .u8 0, .int .u8 0, .int .u8 0, .int .u8 0, .int .u8 0, .int .u8 0, .int .u8 0, .int .u8 0, .int .u8 0, .int .u8 0, .int .u8 0, .int .u8 0, .int .u8 0]⟩),
  (159, ⟨.other, 1, 8, .nilFunc⟩),
  (165, ⟨.other, 1, 8, .nilFunc⟩),
  (168, ⟨.other, 1, 8, .nilFunc⟩)]
theorem Tryz.tok : TOk Tryz.prog Tryz.tab := ⟨
  ⟨by kernel_rfl, by kernel_rfl, rfl⟩,
  ⟨by kernel_rfl, by kernel_rfl, rfl⟩,
  ⟨by kernel_rfl, by kernel_rfl, rfl⟩,
  ⟨by kernel_rfl, by kernel_rfl, rfl⟩,
  ⟨by kernel_rfl, by kernel_rfl, rfl⟩,
  ⟨by kernel_rfl, by kernel_rfl, rfl⟩,
  ⟨by kernel_rfl, by kernel_rfl, rfl⟩,
  ⟨by kernel_rfl, by kernel_rfl, rfl⟩,
  ⟨by kernel_rfl, by kernel_rfl, rfl⟩,
  ⟨by kernel_rfl, by kernel_rfl, rfl⟩,
  ⟨by kernel_rfl, by kernel_rfl, rfl⟩,
  ⟨by kernel_rfl, by kernel_rfl, rfl⟩,
  ⟨by kernel_rfl, by kernel_rfl, rfl⟩,
  ⟨by kernel_rfl, by kernel_rfl, rfl⟩,
  ⟨by kernel_rfl, by kernel_rfl, rfl⟩,
  ⟨by kernel_rfl, by kernel_rfl, rfl⟩,
  ⟨by kernel_rfl, by kernel_rfl, rfl⟩,
  ⟨by kernel_rfl, by kernel_rfl, rfl⟩,
  ⟨by kernel_rfl, by kernel_rfl, rfl⟩,
  ⟨by kernel_rfl, by kernel_rfl, rfl⟩,
  ⟨by kernel_rfl, by kernel_rfl, rfl⟩,
  ⟨by kernel_rfl, by kernel_rfl, rfl⟩,
  ⟨by kernel_rfl, by kernel_rfl, rfl⟩,
  ⟨by kernel_rfl, by kernel_rfl, rfl⟩,
  ⟨by kernel_rfl, by kernel_rfl, rfl⟩,
  ⟨by kernel_rfl, by kernel_rfl, rfl⟩,
  ⟨by kernel_rfl, by kernel_rfl, rfl⟩,
  ⟨by kernel_rfl, by kernel_rfl, rfl⟩,
  ⟨by kernel_rfl, by kernel_rfl, rfl⟩,
  ⟨by kernel_rfl, by kernel_rfl, rfl⟩,
  ⟨by kernel_rfl, by kernel_rfl, rfl⟩,
  ⟨by kernel_rfl, by kernel_rfl, rfl⟩,
  ⟨by kernel_rfl, by kernel_rfl, rfl⟩,
  ⟨by kernel_rfl, by kernel_rfl, rfl⟩,
  ⟨by kernel_rfl, by kernel_rfl, rfl⟩,
  ⟨by kernel_rfl, by kernel_rfl, rfl⟩,
  ⟨by kernel_rfl, by kernel_rfl, rfl⟩,
  ⟨by kernel_rfl, by kernel_rfl, rfl⟩,
  ⟨by kernel_rfl, by kernel_rfl, rfl⟩,
  ⟨by kernel_rfl, by kernel_rfl, rfl⟩,
  ⟨by kernel_rfl, by kernel_rfl, rfl⟩,
  ⟨by kernel_rfl, by kernel_rfl, rfl⟩,
  ⟨by kernel_rfl, by kernel_rfl, rfl⟩,
  ⟨by kernel_rfl, by kernel_rfl, rfl⟩,
  ⟨by kernel_rfl, by kernel_rfl, rfl⟩,
  ⟨by kernel_rfl, by kernel_rfl, rfl⟩,
  ⟨by kernel_rfl, by kernel_rfl, rfl⟩,
  ⟨by kernel_rfl, by kernel_rfl, rfl⟩,
  ⟨by kernel_rfl, by kernel_rfl, rfl⟩,
  ⟨by kernel_rfl, by kernel_rfl, rfl⟩,
  ⟨by kernel_rfl, by kernel_rfl, rfl⟩,
  ⟨by kernel_rfl, by kernel_rfl, rfl⟩,
  ⟨by kernel_rfl, by kernel_rfl, rfl⟩,
  ⟨by kernel_rfl, by kernel_rfl, rfl⟩,
  ⟨by kernel_rfl, by kernel_rfl, rfl⟩,
  ⟨by kernel_rfl, by kernel_rfl, rfl⟩,
  ⟨by kernel_rfl, by kernel_rfl, rfl⟩,
  ⟨by kernel_rfl, by kernel_rfl, rfl⟩,
  ⟨by kernel_rfl, by kernel_rfl, rfl⟩,
  ⟨by kernel_rfl, by kernel_rfl, rfl⟩,
  ⟨by kernel_rfl, by kernel_rfl, rfl⟩,
  ⟨by kernel_rfl, by kernel_rfl, rfl⟩,
  ⟨by kernel_rfl, by kernel_rfl, rfl⟩,
  ⟨by kernel_rfl, by kernel_rfl, rfl⟩,
  ⟨by kernel_rfl, by kernel_rfl, rfl⟩,
  ⟨by kernel_rfl, by kernel_rfl, rfl⟩,
  ⟨by kernel_rfl, by kernel_rfl, rfl⟩,
  ⟨by kernel_rfl, by kernel_rfl, rfl⟩,
  ⟨by kernel_rfl, by kernel_rfl, rfl⟩,
  ⟨by kernel_rfl, by kernel_rfl, rfl⟩,
  ⟨by kernel_rfl, by kernel_rfl, rfl⟩,
  ⟨by kernel_rfl, by kernel_rfl, rfl⟩,
  ⟨by kernel_rfl, by kernel_rfl, rfl⟩,
  ⟨by kernel_rfl, by kernel_rfl, rfl⟩,
  ⟨by kernel_rfl, by kernel_rfl, rfl⟩,
  ⟨by kernel_rfl, by kernel_rfl, rfl⟩,
  ⟨by kernel_rfl, by kernel_rfl, rfl⟩,
  ⟨by kernel_rfl, by kernel_rfl, rfl⟩,
  ⟨by kernel_rfl, by kernel_rfl, rfl⟩,
  ⟨by kernel_rfl, by kernel_rfl, rfl⟩,
  ⟨by kernel_rfl, by kernel_rfl, rfl⟩,
  ⟨by kernel_rfl, by kernel_rfl, rfl⟩,
  ⟨by kernel_rfl, by kernel_rfl, rfl⟩,
  ⟨by kernel_rfl, by kernel_rfl, rfl⟩,
  ⟨by kernel_rfl, by kernel_rfl, rfl⟩,
  ⟨by kernel_rfl, by kernel_rfl, rfl⟩,
  ⟨by kernel_rfl, by kernel_rfl, rfl⟩,
  ⟨by kernel_rfl, by kernel_rfl, rfl⟩,
  ⟨by kernel_rfl, by kernel_rfl, rfl⟩,
  ⟨by kernel_rfl, by kernel_rfl, rfl⟩,
  ⟨by kernel_rfl, by kernel_rfl, rfl⟩,
  ⟨by kernel_rfl, by kernel_rfl, rfl⟩,
  ⟨by kernel_rfl, by kernel_rfl, rfl⟩,
  ⟨by kernel_rfl, by kernel_rfl, rfl⟩,
  ⟨by kernel_rfl, by kernel_rfl, rfl⟩,
  ⟨by kernel_rfl, by kernel_rfl, rfl⟩,
  ⟨by kernel_rfl, by kernel_rfl, rfl⟩,
  ⟨by kernel_rfl, by kernel_rfl, rfl⟩,
  ⟨by kernel_rfl, by kernel_rfl, rfl⟩,
  ⟨by kernel_rfl, by kernel_rfl, rfl⟩,
  ⟨by kernel_rfl, by kernel_rfl, rfl⟩,
  ⟨by kernel_rfl, by kernel_rfl, rfl⟩,
  ⟨by kernel_rfl, by kernel_rfl, rfl⟩,
  ⟨by kernel_rfl, by kernel_rfl, rfl⟩,
  ⟨by kernel_rfl, by kernel_rfl, rfl⟩,
  ⟨by kernel_rfl, by kernel_rfl, rfl⟩,
  ⟨by kernel_rfl, by kernel_rfl, rfl⟩,
  ⟨by kernel_rfl, by kernel_rfl, rfl⟩,
  ⟨by kernel_rfl, by kernel_rfl, rfl⟩,
  ⟨by kernel_rfl, by kernel_rfl, rfl⟩,
  ⟨by kernel_rfl, by kernel_rfl, rfl⟩,
  ⟨by kernel_rfl, by kernel_rfl, rfl⟩,
  ⟨by kernel_rfl, by kernel_rfl, rfl⟩,
  ⟨by kernel_rfl, by kernel_rfl, rfl⟩,
  ⟨by kernel_rfl, by kernel_rfl, rfl⟩,
  ⟨by kernel_rfl, by kernel_rfl, rfl⟩,
  ⟨by kernel_rfl, by kernel_rfl, rfl⟩,
  ⟨by kernel_rfl, by kernel_rfl, rfl⟩,
  ⟨by kernel_rfl, by kernel_rfl, rfl⟩,
  ⟨by kernel_rfl, by kernel_rfl, rfl⟩,
  ⟨by kernel_rfl, by kernel_rfl, rfl⟩,
  ⟨by kernel_rfl, by kernel_rfl, rfl⟩,
  ⟨by kernel_rfl, by kernel_rfl, rfl⟩,
  ⟨by kernel_rfl, by kernel_rfl, rfl⟩,
  ⟨by kernel_rfl, by kernel_rfl, rfl⟩,
  ⟨by kernel_rfl, by kernel_rfl, rfl⟩,
  ⟨by kernel_rfl, by kernel_rfl, rfl⟩,
  ⟨by kernel_rfl, by kernel_rfl, rfl⟩,
  ⟨by kernel_rfl, by kernel_rfl, rfl⟩,
  ⟨by kernel_rfl, by kernel_rfl, rfl⟩,
  ⟨by kernel_rfl, by kernel_rfl, rfl⟩,
  ⟨by kernel_rfl, by kernel_rfl, rfl⟩,
  ⟨by kernel_rfl, by kernel_rfl, rfl⟩,
  ⟨by kernel_rfl, by kernel_rfl, rfl⟩,
  ⟨by kernel_rfl, by kernel_rfl, rfl⟩,
  ⟨by kernel_rfl, by kernel_rfl, rfl⟩,
  trivial⟩
def Tryz.fns : List Nat := [2, 3, 4, 5, 6, 7, 8, 9, 10, 11, 12, 13, 14, 15, 16, 17, 18, 19, 20, 21, 22, 23, 24, 25, 26, 27, 28, 29, 30, 31, 32, 33, 34, 35, 36, 37, 38, 39, 40, 41, 42, 43, 44, 45, 46, 47, 48, 49, 50, 51, 52, 53, 54, 55, 56, 57, 58, 59, 60, 61, 62, 63, 64, 65, 66, 67, 68, 69, 70, 71, 72, 73, 74, 75, 76, 77, 78, 79, 80, 81, 82, 83, 84, 85, 86, 87, 89, 90, 91, 92, 93, 94, 95, 96, 97, 98, 99, 101, 102, 103, 104, 105, 106, 108, 139]
theorem Tryz.fns_enter : (Tryz.fns.all (entersB Tryz.prog)) = true := by kernel_rfl
noncomputable def Tryz.cxg (N : Nat) (SR SB SC : List Nat) (n0 : Nat) (M : List Nat) (w : World) : Cx := ⟨Tryz.prog, Tryz.tab, Tryz.fns, N, SR, SB, SC, n0, M, w, none⟩
noncomputable abbrev Tryz.cxm (N : Nat) (SR SB SC M : List Nat) (w : World) : Cx := Tryz.cxg N SR SB SC w.heap.size M w
noncomputable abbrev Tryz.cx (N : Nat) (SR SB SC : List Nat) (w : World) : Cx := Tryz.cxm N SR SB SC [] w
theorem Tryz.ok (N : Nat) (SR SB SC : List Nat) (n0 : Nat) (M : List Nat) (w : World) : COk (Tryz.cxg N SR SB SC n0 M w) :=
  ⟨Tryz.tok, fun _ h => enters_of (memN_all Tryz.fns_enter h), by kernel_rfl⟩
theorem Tryz.eqIn24 (d : Nat) (a0 b0 : Int) (a1 b1 : Int) (w : World) : (Op.equalIn (d + 1 + 1) 24 (.agg #[.int .i64 a0, .int .i64 a1]) (.agg #[.int .i64 b0, .int .i64 b1])).run Tryz.prog w = .ok (a0 == b0 && (a1 == b1 && true)) w :=
  equalIn_st [(true, 3, 0), (true, 3, 1)] (by kernel_rfl) (by kernel_rfl) (by kernel_rfl)
    (eqs_cons (.int .i64 a0) (.int .i64 b0) (by kernel_rfl) (by kernel_rfl) (run_equalIn_int w (d) 3 .i64 .i64 _ _ (by kernel_rfl)) (eqs_cons (.int .i64 a1) (.int .i64 b1) (by kernel_rfl) (by kernel_rfl) (run_equalIn_int w (d) 3 .i64 .i64 _ _ (by kernel_rfl)) eqs_nil))
theorem Tryz.eq24 (a0 b0 : Int) (a1 b1 : Int) (w : World) : (Op.equal 24 (SV.a [.v (.int .i64 a0), .v (.int .i64 a1)]).real (SV.a [.v (.int .i64 b0), .v (.int .i64 b1)]).real).run Tryz.prog w = .ok (a0 == b0 && (a1 == b1 && true)) w :=
  Tryz.eqIn24 9998 a0 b0 a1 b1 w
theorem Tryz.eqg24 : Tryz.prog.eqGuardType Tryz.prog.depth 24 = false := by kernel_rfl
theorem Tryz.eqIn25 (d : Nat) (a0 b0 : Int) (a1 b1 : Int) (w : World) : (Op.equalIn (d + 1 + 1) 25 (.agg #[.int .i64 a0, .int .i64 a1]) (.agg #[.int .i64 b0, .int .i64 b1])).run Tryz.prog w = .ok (a0 == b0 && (a1 == b1 && true)) w :=
  equalIn_st [(true, 3, 0), (true, 3, 1)] (by kernel_rfl) (by kernel_rfl) (by kernel_rfl)
    (eqs_cons (.int .i64 a0) (.int .i64 b0) (by kernel_rfl) (by kernel_rfl) (run_equalIn_int w (d) 3 .i64 .i64 _ _ (by kernel_rfl)) (eqs_cons (.int .i64 a1) (.int .i64 b1) (by kernel_rfl) (by kernel_rfl) (run_equalIn_int w (d) 3 .i64 .i64 _ _ (by kernel_rfl)) eqs_nil))
theorem Tryz.eq25 (a0 b0 : Int) (a1 b1 : Int) (w : World) : (Op.equal 25 (SV.a [.v (.int .i64 a0), .v (.int .i64 a1)]).real (SV.a [.v (.int .i64 b0), .v (.int .i64 b1)]).real).run Tryz.prog w = .ok (a0 == b0 && (a1 == b1 && true)) w :=
  Tryz.eqIn25 9998 a0 b0 a1 b1 w
theorem Tryz.eqg25 : Tryz.prog.eqGuardType Tryz.prog.depth 25 = false := by kernel_rfl
theorem Tryz.eqIn34 (d : Nat) (a0 b0 : Int) (a1 b1 : Int) (a2 b2 : Int) (a3 b3 : Int) (a4 b4 : Int) (w : World) : (Op.equalIn (d + 1 + 1) 34 (.agg #[.int .i64 a0, .int .i64 a1, .int .i64 a2, .int .i64 a3, .int .i64 a4]) (.agg #[.int .i64 b0, .int .i64 b1, .int .i64 b2, .int .i64 b3, .int .i64 b4])).run Tryz.prog w = .ok (a0 == b0 && (a1 == b1 && (a2 == b2 && (a3 == b3 && (a4 == b4 && true))))) w :=
  equalIn_st [(true, 3, 0), (true, 3, 1), (true, 3, 2), (true, 3, 3), (true, 3, 4)] (by kernel_rfl) (by kernel_rfl) (by kernel_rfl)
    (eqs_cons (.int .i64 a0) (.int .i64 b0) (by kernel_rfl) (by kernel_rfl) (run_equalIn_int w (d) 3 .i64 .i64 _ _ (by kernel_rfl)) (eqs_cons (.int .i64 a1) (.int .i64 b1) (by kernel_rfl) (by kernel_rfl) (run_equalIn_int w (d) 3 .i64 .i64 _ _ (by kernel_rfl)) (eqs_cons (.int .i64 a2) (.int .i64 b2) (by kernel_rfl) (by kernel_rfl) (run_equalIn_int w (d) 3 .i64 .i64 _ _ (by kernel_rfl)) (eqs_cons (.int .i64 a3) (.int .i64 b3) (by kernel_rfl) (by kernel_rfl) (run_equalIn_int w (d) 3 .i64 .i64 _ _ (by kernel_rfl)) (eqs_cons (.int .i64 a4) (.int .i64 b4) (by kernel_rfl) (by kernel_rfl) (run_equalIn_int w (d) 3 .i64 .i64 _ _ (by kernel_rfl)) eqs_nil)))))
theorem Tryz.eq34 (a0 b0 : Int) (a1 b1 : Int) (a2 b2 : Int) (a3 b3 : Int) (a4 b4 : Int) (w : World) : (Op.equal 34 (SV.a [.v (.int .i64 a0), .v (.int .i64 a1), .v (.int .i64 a2), .v (.int .i64 a3), .v (.int .i64 a4)]).real (SV.a [.v (.int .i64 b0), .v (.int .i64 b1), .v (.int .i64 b2), .v (.int .i64 b3), .v (.int .i64 b4)]).real).run Tryz.prog w = .ok (a0 == b0 && (a1 == b1 && (a2 == b2 && (a3 == b3 && (a4 == b4 && true))))) w :=
  Tryz.eqIn34 9998 a0 b0 a1 b1 a2 b2 a3 b3 a4 b4 w
theorem Tryz.eqg34 : Tryz.prog.eqGuardType Tryz.prog.depth 34 = false := by kernel_rfl
theorem Tryz.eqIn35 (d : Nat) (a0 b0 : Int) (a1 b1 : Int) (a2 b2 : Int) (a3 b3 : Int) (a4 b4 : Int) (w : World) : (Op.equalIn (d + 1 + 1) 35 (.agg #[.int .i64 a0, .int .i64 a1, .int .i64 a2, .int .i64 a3, .int .i64 a4]) (.agg #[.int .i64 b0, .int .i64 b1, .int .i64 b2, .int .i64 b3, .int .i64 b4])).run Tryz.prog w = .ok (a0 == b0 && (a1 == b1 && (a2 == b2 && (a3 == b3 && (a4 == b4 && true))))) w :=
  equalIn_st [(true, 3, 0), (true, 3, 1), (true, 3, 2), (true, 3, 3), (true, 3, 4)] (by kernel_rfl) (by kernel_rfl) (by kernel_rfl)
    (eqs_cons (.int .i64 a0) (.int .i64 b0) (by kernel_rfl) (by kernel_rfl) (run_equalIn_int w (d) 3 .i64 .i64 _ _ (by kernel_rfl)) (eqs_cons (.int .i64 a1) (.int .i64 b1) (by kernel_rfl) (by kernel_rfl) (run_equalIn_int w (d) 3 .i64 .i64 _ _ (by kernel_rfl)) (eqs_cons (.int .i64 a2) (.int .i64 b2) (by kernel_rfl) (by kernel_rfl) (run_equalIn_int w (d) 3 .i64 .i64 _ _ (by kernel_rfl)) (eqs_cons (.int .i64 a3) (.int .i64 b3) (by kernel_rfl) (by kernel_rfl) (run_equalIn_int w (d) 3 .i64 .i64 _ _ (by kernel_rfl)) (eqs_cons (.int .i64 a4) (.int .i64 b4) (by kernel_rfl) (by kernel_rfl) (run_equalIn_int w (d) 3 .i64 .i64 _ _ (by kernel_rfl)) eqs_nil)))))
theorem Tryz.eq35 (a0 b0 : Int) (a1 b1 : Int) (a2 b2 : Int) (a3 b3 : Int) (a4 b4 : Int) (w : World) : (Op.equal 35 (SV.a [.v (.int .i64 a0), .v (.int .i64 a1), .v (.int .i64 a2), .v (.int .i64 a3), .v (.int .i64 a4)]).real (SV.a [.v (.int .i64 b0), .v (.int .i64 b1), .v (.int .i64 b2), .v (.int .i64 b3), .v (.int .i64 b4)]).real).run Tryz.prog w = .ok (a0 == b0 && (a1 == b1 && (a2 == b2 && (a3 == b3 && (a4 == b4 && true))))) w :=
  Tryz.eqIn35 9998 a0 b0 a1 b1 a2 b2 a3 b3 a4 b4 w
theorem Tryz.eqg35 : Tryz.prog.eqGuardType Tryz.prog.depth 35 = false := by kernel_rfl
theorem Tryz.eqIn71 (d : Nat) (a0 b0 : Int) (a1 b1 : Int) (a2 b2 : Int) (a3 b3 : Int) (a4 b4 : Int) (w : World) : (Op.equalIn (d + 1 + 1) 71 (.agg #[.int .i64 a0, .int .i64 a1, .int .i64 a2, .int .i64 a3, .int .i64 a4]) (.agg #[.int .i64 b0, .int .i64 b1, .int .i64 b2, .int .i64 b3, .int .i64 b4])).run Tryz.prog w = .ok (a0 == b0 && (a1 == b1 && (a2 == b2 && (a3 == b3 && (a4 == b4 && true))))) w :=
  equalIn_st [(true, 3, 0), (true, 3, 1), (true, 3, 2), (true, 3, 3), (true, 3, 4)] (by kernel_rfl) (by kernel_rfl) (by kernel_rfl)
    (eqs_cons (.int .i64 a0) (.int .i64 b0) (by kernel_rfl) (by kernel_rfl) (run_equalIn_int w (d) 3 .i64 .i64 _ _ (by kernel_rfl)) (eqs_cons (.int .i64 a1) (.int .i64 b1) (by kernel_rfl) (by kernel_rfl) (run_equalIn_int w (d) 3 .i64 .i64 _ _ (by kernel_rfl)) (eqs_cons (.int .i64 a2) (.int .i64 b2) (by kernel_rfl) (by kernel_rfl) (run_equalIn_int w (d) 3 .i64 .i64 _ _ (by kernel_rfl)) (eqs_cons (.int .i64 a3) (.int .i64 b3) (by kernel_rfl) (by kernel_rfl) (run_equalIn_int w (d) 3 .i64 .i64 _ _ (by kernel_rfl)) (eqs_cons (.int .i64 a4) (.int .i64 b4) (by kernel_rfl) (by kernel_rfl) (run_equalIn_int w (d) 3 .i64 .i64 _ _ (by kernel_rfl)) eqs_nil)))))
theorem Tryz.eq71 (a0 b0 : Int) (a1 b1 : Int) (a2 b2 : Int) (a3 b3 : Int) (a4 b4 : Int) (w : World) : (Op.equal 71 (SV.a [.v (.int .i64 a0), .v (.int .i64 a1), .v (.int .i64 a2), .v (.int .i64 a3), .v (.int .i64 a4)]).real (SV.a [.v (.int .i64 b0), .v (.int .i64 b1), .v (.int .i64 b2), .v (.int .i64 b3), .v (.int .i64 b4)]).real).run Tryz.prog w = .ok (a0 == b0 && (a1 == b1 && (a2 == b2 && (a3 == b3 && (a4 == b4 && true))))) w :=
  Tryz.eqIn71 9998 a0 b0 a1 b1 a2 b2 a3 b3 a4 b4 w
theorem Tryz.eqg71 : Tryz.prog.eqGuardType Tryz.prog.depth 71 = false := by kernel_rfl
theorem Tryz.eqIn81 (d : Nat) (a0 b0 : Int) (a1 b1 : Int) (w : World) : (Op.equalIn (d + 1 + 1) 81 (.agg #[.int .i64 a0, .int .i64 a1]) (.agg #[.int .i64 b0, .int .i64 b1])).run Tryz.prog w = .ok (a0 == b0 && (a1 == b1 && true)) w :=
  equalIn_st [(true, 3, 0), (true, 3, 1)] (by kernel_rfl) (by kernel_rfl) (by kernel_rfl)
    (eqs_cons (.int .i64 a0) (.int .i64 b0) (by kernel_rfl) (by kernel_rfl) (run_equalIn_int w (d) 3 .i64 .i64 _ _ (by kernel_rfl)) (eqs_cons (.int .i64 a1) (.int .i64 b1) (by kernel_rfl) (by kernel_rfl) (run_equalIn_int w (d) 3 .i64 .i64 _ _ (by kernel_rfl)) eqs_nil))
theorem Tryz.eq81 (a0 b0 : Int) (a1 b1 : Int) (w : World) : (Op.equal 81 (SV.a [.v (.int .i64 a0), .v (.int .i64 a1)]).real (SV.a [.v (.int .i64 b0), .v (.int .i64 b1)]).real).run Tryz.prog w = .ok (a0 == b0 && (a1 == b1 && true)) w :=
  Tryz.eqIn81 9998 a0 b0 a1 b1 w
theorem Tryz.eqg81 : Tryz.prog.eqGuardType Tryz.prog.depth 81 = false := by kernel_rfl
theorem Tryz.eqIn148 (d : Nat) (a0 b0 : ByteArray) (w : World) : (Op.equalIn (d + 1 + 1) 148 (.agg #[.string a0]) (.agg #[.string b0])).run Tryz.prog w = .ok (a0 == b0 && true) w :=
  equalIn_st [(true, 9, 0)] (by kernel_rfl) (by kernel_rfl) (by kernel_rfl)
    (eqs_cons (.string a0) (.string b0) (by kernel_rfl) (by kernel_rfl) (eqs_string w (d) 9 _ _ (by kernel_rfl)) eqs_nil)
theorem Tryz.eq148 (a0 b0 : ByteArray) (w : World) : (Op.equal 148 (SV.a [.v (.string a0)]).real (SV.a [.v (.string b0)]).real).run Tryz.prog w = .ok (a0 == b0 && true) w :=
  Tryz.eqIn148 9998 a0 b0 w
theorem Tryz.eqg148 : Tryz.prog.eqGuardType Tryz.prog.depth 148 = false := by kernel_rfl
theorem Tryz.eqIn149 (d : Nat) (a0 b0 : ByteArray) (w : World) : (Op.equalIn (d + 1 + 1) 149 (.agg #[.string a0]) (.agg #[.string b0])).run Tryz.prog w = .ok (a0 == b0 && true) w :=
  equalIn_st [(true, 9, 0)] (by kernel_rfl) (by kernel_rfl) (by kernel_rfl)
    (eqs_cons (.string a0) (.string b0) (by kernel_rfl) (by kernel_rfl) (eqs_string w (d) 9 _ _ (by kernel_rfl)) eqs_nil)
theorem Tryz.eq149 (a0 b0 : ByteArray) (w : World) : (Op.equal 149 (SV.a [.v (.string a0)]).real (SV.a [.v (.string b0)]).real).run Tryz.prog w = .ok (a0 == b0 && true) w :=
  Tryz.eqIn149 9998 a0 b0 w
theorem Tryz.eqg149 : Tryz.prog.eqGuardType Tryz.prog.depth 149 = false := by kernel_rfl
theorem Tryz.eqIn152 (d : Nat) (a0 b0 : Int) (a1 b1 : Int) (w : World) : (Op.equalIn (d + 1 + 1) 152 (.agg #[.int .u8 a0, .int .u8 a1]) (.agg #[.int .u8 b0, .int .u8 b1])).run Tryz.prog w = .ok (a0 == b0 && (a1 == b1 && true)) w :=
  equalIn_st [(true, 5, 0), (true, 5, 1)] (by kernel_rfl) (by kernel_rfl) (by kernel_rfl)
    (eqs_cons (.int .u8 a0) (.int .u8 b0) (by kernel_rfl) (by kernel_rfl) (run_equalIn_int w (d) 5 .u8 .u8 _ _ (by kernel_rfl)) (eqs_cons (.int .u8 a1) (.int .u8 b1) (by kernel_rfl) (by kernel_rfl) (run_equalIn_int w (d) 5 .u8 .u8 _ _ (by kernel_rfl)) eqs_nil))
theorem Tryz.eq152 (a0 b0 : Int) (a1 b1 : Int) (w : World) : (Op.equal 152 (SV.a [.v (.int .u8 a0), .v (.int .u8 a1)]).real (SV.a [.v (.int .u8 b0), .v (.int .u8 b1)]).real).run Tryz.prog w = .ok (a0 == b0 && (a1 == b1 && true)) w :=
  Tryz.eqIn152 9998 a0 b0 a1 b1 w
theorem Tryz.eqg152 : Tryz.prog.eqGuardType Tryz.prog.depth 152 = false := by kernel_rfl
theorem Tryz.eqIn153 (d : Nat) (a0 b0 : Int) (a1 b1 : Int) (w : World) : (Op.equalIn (d + 1 + 1) 153 (.agg #[.int .u8 a0, .int .u8 a1]) (.agg #[.int .u8 b0, .int .u8 b1])).run Tryz.prog w = .ok (a0 == b0 && (a1 == b1 && true)) w :=
  equalIn_st [(true, 5, 0), (true, 5, 1)] (by kernel_rfl) (by kernel_rfl) (by kernel_rfl)
    (eqs_cons (.int .u8 a0) (.int .u8 b0) (by kernel_rfl) (by kernel_rfl) (run_equalIn_int w (d) 5 .u8 .u8 _ _ (by kernel_rfl)) (eqs_cons (.int .u8 a1) (.int .u8 b1) (by kernel_rfl) (by kernel_rfl) (run_equalIn_int w (d) 5 .u8 .u8 _ _ (by kernel_rfl)) eqs_nil))
theorem Tryz.eq153 (a0 b0 : Int) (a1 b1 : Int) (w : World) : (Op.equal 153 (SV.a [.v (.int .u8 a0), .v (.int .u8 a1)]).real (SV.a [.v (.int .u8 b0), .v (.int .u8 b1)]).real).run Tryz.prog w = .ok (a0 == b0 && (a1 == b1 && true)) w :=
  Tryz.eqIn153 9998 a0 b0 a1 b1 w
theorem Tryz.eqg153 : Tryz.prog.eqGuardType Tryz.prog.depth 153 = false := by kernel_rfl
end Go.Proofs.YtmhfkmnpeponiaaGreatDoor
