import Derived.Test.YtodecgpjidlldaaDoorSatB
import Derived.Test.YtodecgpjidlldaaDoorProg
namespace Go.Proofs.YtodecgpjidlldaaDoor
open Go Go.RowKit Sat
set_option maxRecDepth 100000
noncomputable def Tryd.tab : TT := [
  (1, ⟨.other, 1, 8, .nilFunc⟩),
  (2, ⟨.int .i64, 1, 8, .int .i64 0⟩),
  (3, ⟨.int .i64, 1, 8, .int .i64 0⟩),
  (4, ⟨.bool, 1, 1, .bool false⟩),
  (5, ⟨.int .u8, 1, 1, .int .u8 0⟩),
  (9, ⟨.str, 1, 16, .string ⟨#[]⟩⟩),
  (12, ⟨.int .u64, 1, 8, .int .u64 0⟩),
  (13, ⟨.st [(9, 0), (12, 1)], 2, 24, .agg #[.string ⟨#[]⟩, .int .u64 0]⟩),
  (19, ⟨.st [(17, 0)], 1, 8, .agg #[.pointer none]⟩),
  (20, ⟨.ifc, 1, 16, .nilIface⟩),
  (21, ⟨.int .i32, 1, 4, .int .i32 0⟩),
  (22, ⟨.st [(3, 0), (3, 1), (3, 2), (3, 3), (3, 4)], 5, 40, .agg #[.int .i64 0, .int .i64 0, .int .i64 0, .int .i64 0, .int .i64 0]⟩),
  (23, ⟨.st [(3, 0), (3, 1), (3, 2), (3, 3), (3, 4)], 5, 40, .agg #[.int .i64 0, .int .i64 0, .int .i64 0, .int .i64 0, .int .i64 0]⟩),
  (24, ⟨.other, 1, 8, .nilFunc⟩),
  (25, ⟨.other, 1, 8, .nilFunc⟩),
  (26, ⟨.other, 1, 8, .nilFunc⟩),
  (27, ⟨.int .u16, 1, 2, .int .u16 0⟩),
  (28, ⟨.int .i64, 1, 8, .int .i64 0⟩),
  (30, ⟨.other, 1, 8, .nilFunc⟩),
  (31, ⟨.slice 52, 1, 24, .slice none 0 0⟩),
  (33, ⟨.other, 1, 8, .nilFunc⟩),
  (34, ⟨.other, 1, 8, .nilFunc⟩),
  (35, ⟨.other, 1, 8, .nilFunc⟩),
  (36, ⟨.other, 1, 8, .nilFunc⟩),
  (37, ⟨.other, 1, 8, .nilFunc⟩),
  (38, ⟨.slice 5, 1, 24, .slice none 0 0⟩),
  (39, ⟨.other, 1, 8, .nilFunc⟩),
  (40, ⟨.int .u64, 1, 8, .int .u64 0⟩),
  (41, ⟨.other, 1, 8, .nilFunc⟩),
  (42, ⟨.other, 1, 8, .nilFunc⟩),
  (43, ⟨.other, 1, 8, .nilFunc⟩),
  (45, ⟨.other, 1, 8, .nilFunc⟩),
  (46, ⟨.other, 1, 8, .nilFunc⟩),
  (47, ⟨.other, 1, 8, .nilFunc⟩),
  (48, ⟨.st [(31, 0), (31, 1)], 2, 48, .agg #[.slice none 0 0, .slice none 0 0]⟩),
  (49, ⟨.st [(31, 0), (31, 1)], 2, 48, .agg #[.slice none 0 0, .slice none 0 0]⟩),
  (50, ⟨.other, 1, 8, .nilFunc⟩),
  (51, ⟨.st [(3, 0), (3, 1)], 2, 16, .agg #[.int .i64 0, .int .i64 0]⟩),
  (52, ⟨.st [(3, 0), (3, 1)], 2, 16, .agg #[.int .i64 0, .int .i64 0]⟩),
  (53, ⟨.other, 1, 8, .nilFunc⟩),
  (54, ⟨.other, 1, 8, .nilFunc⟩),
  (55, ⟨.other, 1, 8, .nilFunc⟩),
  (57, ⟨.other, 1, 8, .nilFunc⟩),
  (58, ⟨.other, 1, 8, .nilFunc⟩),
  (59, ⟨.other, 1, 8, .nilFunc⟩),
  (60, ⟨.other, 1, 8, .nilFunc⟩),
  (61, ⟨.other, 1, 8, .nilFunc⟩),
  (62, ⟨.other, 1, 8, .nilFunc⟩),
  (63, ⟨.slice 28, 1, 24, .slice none 0 0⟩),
  (64, ⟨.slice 23, 1, 24, .slice none 0 0⟩),
  (65, ⟨.other, 1, 8, .nilFunc⟩),
  (66, ⟨.st [(3, 0), (3, 1), (3, 2), (3, 3), (3, 4)], 5, 40, .agg #[.int .i64 0, .int .i64 0, .int .i64 0, .int .i64 0, .int .i64 0]⟩),
  (68, ⟨.other, 1, 8, .nilFunc⟩),
  (69, ⟨.slice 113, 1, 24, .slice none 0 0⟩),
  (71, ⟨.other, 1, 8, .nilFunc⟩),
  (72, ⟨.other, 1, 8, .nilFunc⟩),
  (73, ⟨.other, 1, 8, .nilFunc⟩),
  (74, ⟨.other, 1, 8, .nilFunc⟩),
  (75, ⟨.slice 3, 1, 24, .slice none 0 0⟩),
  (77, ⟨.other, 1, 8, .nilFunc⟩),
  (78, ⟨.other, 1, 8, .nilFunc⟩),
  (79, ⟨.other, 1, 8, .nilFunc⟩),
  (80, ⟨.other, 1, 8, .nilFunc⟩),
  (81, ⟨.slice 52, 1, 24, .slice none 0 0⟩),
  (82, ⟨.other, 1, 8, .nilFunc⟩),
  (83, ⟨.other, 1, 8, .nilFunc⟩),
  (84, ⟨.other, 1, 8, .nilFunc⟩),
  (85, ⟨.other, 1, 8, .nilFunc⟩),
  (86, ⟨.arr 7 9, 7, 112, .agg #[.string ⟨#[]⟩, .string ⟨#[]⟩, .string ⟨#[]⟩, .string ⟨#[]⟩, .string ⟨#[]⟩, .string ⟨#[]⟩, .string ⟨#[]⟩]⟩),
  (87, ⟨.slice 9, 1, 24, .slice none 0 0⟩),
  (88, ⟨.other, 1, 8, .nilFunc⟩),
  (89, ⟨.ifc, 1, 16, .nilIface⟩),
  (90, ⟨.ifc, 1, 16, .nilIface⟩),
  (92, ⟨.other, 1, 8, .nilFunc⟩),
  (93, ⟨.other, 1, 8, .nilFunc⟩),
  (94, ⟨.other, 1, 8, .nilFunc⟩),
  (95, ⟨.other, 1, 8, .nilFunc⟩),
  (96, ⟨.st [(69, 0), (69, 1)], 2, 48, .agg #[.slice none 0 0, .slice none 0 0]⟩),
  (97, ⟨.st [(69, 0), (69, 1)], 2, 48, .agg #[.slice none 0 0, .slice none 0 0]⟩),
  (98, ⟨.other, 1, 8, .nilFunc⟩),
  (100, ⟨.other, 1, 8, .nilFunc⟩),
  (101, ⟨.other, 1, 8, .nilFunc⟩),
  (102, ⟨.other, 1, 8, .nilFunc⟩),
  (103, ⟨.other, 1, 8, .nilFunc⟩),
  (104, ⟨.other, 1, 8, .nilFunc⟩),
  (105, ⟨.other, 1, 8, .nilFunc⟩),
  (106, ⟨.other, 1, 8, .nilFunc⟩),
  (107, ⟨.other, 1, 8, .nilFunc⟩),
  (108, ⟨.other, 1, 8, .nilFunc⟩),
  (109, ⟨.other, 1, 8, .nilFunc⟩),
  (110, ⟨.other, 1, 8, .nilFunc⟩),
  (111, ⟨.other, 1, 8, .nilFunc⟩),
  (112, ⟨.other, 1, 8, .nilFunc⟩),
  (113, ⟨.st [(3, 0), (3, 1)], 2, 16, .agg #[.int .i64 0, .int .i64 0]⟩),
  (114, ⟨.ptr 81, 1, 8, .pointer none⟩),
  (115, ⟨.other, 1, 8, .nilFunc⟩),
  (116, ⟨.other, 1, 8, .nilFunc⟩),
  (117, ⟨.slice 31, 1, 24, .slice none 0 0⟩),
  (118, ⟨.other, 1, 8, .nilFunc⟩),
  (120, ⟨.other, 1, 8, .nilFunc⟩),
  (121, ⟨.other, 1, 8, .nilFunc⟩),
  (122, ⟨.other, 1, 8, .nilFunc⟩),
  (123, ⟨.other, 1, 8, .nilFunc⟩),
  (124, ⟨.other, 1, 8, .nilFunc⟩),
  (125, ⟨.other, 1, 8, .nilFunc⟩),
  (126, ⟨.other, 1, 8, .nilFunc⟩),
  (127, ⟨.int .i64, 1, 8, .int .i64 0⟩),
  (129, ⟨.other, 1, 8, .nilFunc⟩),
  (130, ⟨.ptr 147, 1, 8, .pointer none⟩),
  (131, ⟨.other, 1, 8, .nilFunc⟩),
  (132, ⟨.other, 1, 8, .nilFunc⟩),
  (133, ⟨.arr 24 5, 24, 24, .agg #[.int .u8 0, .int .u8 0, .int .u8 0, .int .u8 0, .int .u8 0, .int .u8 0, .int .u8 0, .int .u8 0, .int .u8 0, .int .u8 0, .int .u8 0, .int .u8 0, .int .u8 0, .int .u8 0, .int .u8 0, .int .u8 0, .int .u8 0, .int .u8 0, .int .u8 0, .int .u8 0, .int .u8 0, .int .u8 0, .int .u8 0, .int .u8 0]⟩),
  (134, ⟨.int .u64, 1, 8, .int .u64 0⟩),
  (135, ⟨.other, 1, 8, .nilFunc⟩),
  (136, ⟨.other, 1, 8, .nilFunc⟩),
  (138, ⟨.other, 1, 8, .nilFunc⟩),
  (139, ⟨.other, 1, 8, .nilFunc⟩),
  (141, ⟨.other, 1, 8, .nilFunc⟩),
  (142, ⟨.other, 1, 8, .nilFunc⟩),
  (144, ⟨.other, 1, 8, .nilFunc⟩),
  (145, ⟨.other, 1, 8, .nilFunc⟩),
  (146, ⟨.st [(9, 0), (9, 1), (90, 2)], 3, 48, .agg #[.string ⟨#[]⟩, .string ⟨#[]⟩, .nilIface]⟩),
  (147, ⟨.st [(9, 0), (9, 1), (90, 2)], 3, 48, .agg #[.string ⟨#[]⟩, .string ⟨#[]⟩, .nilIface]⟩),
  (148, ⟨.other, 1, 8, .nilFunc⟩),
  (149, ⟨.other, 1, 8, .nilFunc⟩),
  (150, ⟨.arr 20 134, 20, 160, .agg #[.int .u64 0, .int .u64 0, .int .u64 0, .int .u64 0, .int .u64 0, .int .u64 0, .int .u64 0, .int .u64 0, .int .u64 0, .int .u64 0, .int .u64 0, .int .u64 0, .int .u64 0, .int .u64 0, .int .u64 0, .int .u64 0, .int .u64 0, .int .u64 0, .int .u64 0, .int .u64 0]⟩),
  (151, ⟨.int .u32, 1, 4, .int .u32 0⟩),
  (152, ⟨.arr 65 5, 65, 65, .agg #[.int .u8 0, .int .u8 0, .int .u8 0, .int .u8 0, .int .u8 0, .int .u8 0, .int .u8 0, .int .u8 0, .int .u8 0, .int .u8 0, .int .u8 0, .int .u8 0, .int .u8 0, .int .u8 0, .int .u8 0, .int .u8 0, .int .u8 0, .int .u8 0, .int .u8 0, .int .u8 0, .int .u8 0, .int .u8 0, .int .u8 0, .int .u8 0, .int .u8 0, .int .u8 0, .int .u8 0, .int .u8 0, .int .u8 0, .int .u8 0, .int .u8 0, .int .u8 0, .int .u8 0, .int .u8 0, .int .u8 0, .int .u8 0, .int .u8 0, .int .u8 0, .int .u8 0, .int .u8 0, .int .u8 0, .int .u8 0, .int .u8 0, .int .u8 0, .int .u8 0, .int .u8 0, .int .u8 0, .int .u8 0, .int .u8 0, .int .u8 0, .int .u8 0, .int .u8 0, .int .u8 0, .int .u8 0, .int .u8 0, .int .u8 0, .int .u8 0, .int .u8 0, .int .u8 0, .int .u8 0, .int .u8 0, .int .u8 0, .int .u8 0, .int .u8 0, .int .u8 0]⟩),
  (153, ⟨.other, 1, 8, .nilFunc⟩),
  (154, ⟨.other, 1, 8, .nilFunc⟩),
  (155, ⟨.other, 1, 8, .nilFunc⟩),
  (156, ⟨.ptr 5, 1, 8, .pointer none⟩),
  (157, ⟨.ptr 159, 1, 8, .pointer none⟩),
  (158, ⟨.st [(9, 0)], 1, 16, .agg #[.string ⟨#[]⟩]⟩),
  (159, ⟨.st [(9, 0)], 1, 16, .agg #[.string ⟨#[]⟩]⟩),
  (160, ⟨.other, 1, 8, .nilFunc⟩),
  (161, ⟨.arr 256 5, 256, 256, .agg #[.int .u8 0, .int .u8 0, .int .u8 0, .int .u8 0, .int .u8 0, .int .u8 0, .int .u8 0, .int .u8 0, .int .u8 0, .int .u8 0, .int .u8 0, .int .u8 0, .int .u8 0, .int .u8 0, .int .u8 0, .int .u8 0, .int .u8 0, .int .u8 0, .int .u8 0, .int .u8 0, .int .u8 0, .int .u8 0, .int .u8 0, .int .u8 0, .int .u8 0, .int .u8 0, .int .u8 0, .int .u8 0, .int .u8 0, .int .u8 0, .int .u8 0, .int .u8 0, .int .u8 0, .int .u8 0, .int .u8 0, .int .u8 0, .int .u8 0, .int .u8 0, .int .u8 0, .int .u8 0, .int .u8 0, .int .u8 0, .int .u8 0, .int .u8 0, .int .u8 0, .int .u8 0, .int .u8 0, .int .u8 0, .int .u8 0, .int .u8 0, .int .u8 0, .int .u8 0, .int .u8 0, .int .u8 0, .int .u8 0, .int .u8 0, .int .u8 0, .int .u8 0, .int .u8 0, .int .u8 0, .int .u8 0, .int .u8 0, .int .u8 0, .int .u8 0, .int .u8 0, .int .u8 0, .int .u8 0, .int .u8 0, .int .u8 0, .int .u8 0, .int .u8 0, .int .u8 0, .int .u8 0, .int .u8 0, .int .u8 0, .int .u8 0, .int .u8 0, .int .u8 0, .int .u8 0, .int .u8 0, .int .u8 0, .int .u8 0, .int .u8 0, .int .u8 0, .int .u8 0, .int .u8 0, .int .u8 0, .int .u8 0, .int .u8 0, .int .u8 0, .int .u8 0, .int .u8 0, .int .u8 0, .int .u8 0, .int .u8 0, .int .u8 0, .int .u8 0, .int .u8 0, .int .u8 0, .int .u8 0, .int .u8 0, .int .u8 0, .int .u8 0, .int .u8 0, .int .u8 0, .int .u8 0, .int .u8 0, .int .u8 0, .int .u8 0, .int .u8 0, .int .u8 0, .int .u8 0, .int .u8 0, .int .u8 0, .int .u8 0, .int .u8 0, .int .u8 0, .int .u8 0, .int .u8 0, .int .u8 0, .int .u8 0, .int .u8 0, .int .u8 0, .int .u8 0, .int .u8 0, .int .u8 0, .int .u8 0, .int .u8 0, .int .u8 0, .int .u8 0, .int .u8 0, .int .u8 0, .int .u8 0, .int .u8 0, .int .u8 0, .int .u8 0, .int .u8 0, .int .u8 0, .int .u8 0, .int .u8 0, .int .u8 0, .int .u8 0, .int .u8 0, .int .u8 0, .int .u8 0, .int .u8 0, .int .u8 0, .int .u8 0, .int .u8 0, .int .u8 0, .int .u8 0, .int .u8 0, .int .u8 0, .int .u8 0, .int .u8 0, .int .u8 0, .int .u8 0, .int .u8 0, .int .u8 0, .int .u8 0, .int .u8 0, .int .u8 0, .int .u8 0, .int .u8 0, .int .u8 0, .int .u8 0, .int .u8 0, .int .u8 0, .int .u8 0, .int .u8 0, .int .u8 0, .int .u8 0, .int .u8 0, .int .u8 0, .int .u8 0, .int .u8 0, .int .u8 0, .int .u8 0, .int .u8 0, .int .u8 0, .int .u8 0, .int .u8 0, .int .u8 0, .int .u8 0, .int .u8 0, .int .u8 0, .int .u8 0, .int .u8 0, .int .u8 0, .int .u8 0, .int .u8 0, .int .u8 0, .int .u8 0, .int .u8 0, .int .u8 0, .int .u8 0, .int .u8 0, .int .u8 0, .int .u8 0, .int .u8 0, .int .u8 0, .int .u8 0, .int .u8 0, .int .u8 0, .int .u8 0, .int .u8 0, .int .u8 0, .int .u8 0, .int .u8 0, .int .u8 0, .int .u8 0, .int .u8 0, .int .u8 0, .int .u8 0, .int .u8 0, .int .u8 0, .int .u8 0, .int .u8 0, .int .u8 0, .int .u8 0, .int .u8 0, .int .u8 0, .int .u8 0, .int .u8 0, .int .u8 0, .int .u8 0, .int .u8 0, .int .u8 0, .int .u8 0, .int .u8 0, .int .u8 0, .int .u8 0, .int .u8 0, .int .u8 0, .int .u8 0, .int .u8 0, .int .u8 0, .int .u8 0, .int .u8 0, .int .u8 0, .int .u8 0, .int .u8 0, .int .u8 0, .int .u8 0, .int .u8 0, .int .u8 0, .int .u8 0, .int .u8 0, .int .u8 0, .int .u8 0, .int .u8 0, .int .u8 0, .int .u8 0, .int .u8 0, .int .u8 0, .int .u8 0]⟩),
  (162, ⟨.st [(5, 0), (5, 1)], 2, 2, .agg #[.int .u8 0, .int .u8 0]⟩),
  (163, ⟨.st [(5, 0), (5, 1)], 2, 2, .agg #[.int .u8 0, .int .u8 0]⟩),
  (164, ⟨.arr 16 163, 32, 32, .agg #[.int .u8 0, .int .u8 0, .int .u8 0, .int .u8 0, .int .u8 0, .int .u8 0, .int .u8 0, .int .u8 0, .int .u8 0, .int .u8 0, .int .u8 0, .int .u8 0, .int .u8 0, .int .u8 0, .int .u8 0, .int .u8 0, .int .u8 0, .int .u8 0, .int .u8 0, .int .u8 0, .int .u8 0, .int .u8 0, .int .u8 0, .int .u8 0, .int .u8 0, .int .u8 0, .int .u8 0, .int .u8 0, .int .u8 0, .int .u8 0, .int .u8 0, .int .u8 0]⟩),
  (166, ⟨.other, 1, 8, .nilFunc⟩),
  (167, ⟨.arr 32 5, 32, 32, .agg #[.int .u8 0, .int .u8 0, .int .u8 0, .int .u8 0, .int .u8 0, .int .u8 0, .int .u8 0, .int .u8 0, .int .u8 0, .int .u8 0, .int .u8 0, .int .u8 0, .int .u8 0, .int .u8 0, .int .u8 0, .int .u8 0, .int .u8 0, .int .u8 0, .int .u8 0, .int .u8 0, .int .u8 0, .int .u8 0, .int .u8 0, .int .u8 0, .int .u8 0, .int .u8 0, .int .u8 0, .int .u8 0, .int .u8 0, .int .u8 0, .int .u8 0, .int .u8 0]⟩),
  (168, ⟨.arr 64 5, 64, 64, .agg #[.int .u8 0, .int .u8 0, .int .u8 0, .int .u8 0, .int .u8 0, .int .u8 0, .int .u8 0, .int .u8 0, .int .u8 0, .int .u8 0, .int .u8 0, .int .u8 0, .int .u8 0, .int .u8 0, .int .u8 0, .int .u8 0, .int .u8 0, .int .u8 0, .int .u8 0, .int .u8 0, .int .u8 0, .int .u8 0, .int .u8 0, .int .u8 0, .int .u8 0, .int .u8 0, .int .u8 0, .int .u8 0, .int .u8 0, .int .u8 0, .int .u8 0, .int .u8 0, .int .u8 0, .int .u8 0, .int .u8 0, .int .u8 0, .int .u8 0, .int .u8 0, .int .u8 0, .int .u8 0, .int .u8 0, .int .u8 0, .int .u8 0, .int .u8 0, .int .u8 0, .int .u8 0, .int .u8 0, .int .u8 0, .int .u8 0, .int .u8 0, .int .u8 0, .int .u8 0, .int .u8 0, .int .u8 0, .int .u8 0, .int .u8 0, .int .u8 0, .int .u8 0, .int .u8 0, .int .u8 0, .int .u8 0, .int .u8 0, .int .u8 0, .int .u8 0]⟩),
  (169, ⟨.other, 1, 8, .nilFunc⟩),
  (175, ⟨.other, 1, 8, .nilFunc⟩),
  (178, ⟨.other, 1, 8, .nilFunc⟩)]
theorem Tryd.tok : TOk Tryd.prog Tryd.tab := ⟨
  ⟨by kernel_rfl, by kernel_rfl, rfl⟩,
  ⟨by kernel_rfl, by kernel_rfl, rfl⟩,
  ⟨by kernel_rfl, by kernel_rfl, rfl⟩,
  ⟨by kernel_rfl, by kernel_rfl, rfl⟩,
  ⟨by kernel_rfl, by kernel_rfl, rfl⟩,
  ⟨by kernel_rfl, by kernel_rfl, rfl⟩,
  ⟨by kernel_rfl, by kernel_rfl, rfl⟩,
  ⟨by kernel_rfl, by kernel_rfl, rfl⟩,
  ⟨by kernel_rfl, by kernel_rfl, rfl⟩,
  ⟨by kernel_rfl, by kernel_rfl, rfl⟩,
  ⟨by kernel_rfl, by kernel_rfl, rfl⟩,
  ⟨by kernel_rfl, by kernel_rfl, rfl⟩,
  ⟨by kernel_rfl, by kernel_rfl, rfl⟩,
  ⟨by kernel_rfl, by kernel_rfl, rfl⟩,
  ⟨by kernel_rfl, by kernel_rfl, rfl⟩,
  ⟨by kernel_rfl, by kernel_rfl, rfl⟩,
  ⟨by kernel_rfl, by kernel_rfl, rfl⟩,
  ⟨by kernel_rfl, by kernel_rfl, rfl⟩,
  ⟨by kernel_rfl, by kernel_rfl, rfl⟩,
  ⟨by kernel_rfl, by kernel_rfl, rfl⟩,
  ⟨by kernel_rfl, by kernel_rfl, rfl⟩,
  ⟨by kernel_rfl, by kernel_rfl, rfl⟩,
  ⟨by kernel_rfl, by kernel_rfl, rfl⟩,
  ⟨by kernel_rfl, by kernel_rfl, rfl⟩,
  ⟨by kernel_rfl, by kernel_rfl, rfl⟩,
  ⟨by kernel_rfl, by kernel_rfl, rfl⟩,
  ⟨by kernel_rfl, by kernel_rfl, rfl⟩,
  ⟨by kernel_rfl, by kernel_rfl, rfl⟩,
  ⟨by kernel_rfl, by kernel_rfl, rfl⟩,
  ⟨by kernel_rfl, by kernel_rfl, rfl⟩,
  ⟨by kernel_rfl, by kernel_rfl, rfl⟩,
  ⟨by kernel_rfl, by kernel_rfl, rfl⟩,
  ⟨by kernel_rfl, by kernel_rfl, rfl⟩,
  ⟨by kernel_rfl, by kernel_rfl, rfl⟩,
  ⟨by kernel_rfl, by kernel_rfl, rfl⟩,
  ⟨by kernel_rfl, by kernel_rfl, rfl⟩,
  ⟨by kernel_rfl, by kernel_rfl, rfl⟩,
  ⟨by kernel_rfl, by kernel_rfl, rfl⟩,
  ⟨by kernel_rfl, by kernel_rfl, rfl⟩,
  ⟨by kernel_rfl, by kernel_rfl, rfl⟩,
  ⟨by kernel_rfl, by kernel_rfl, rfl⟩,
  ⟨by kernel_rfl, by kernel_rfl, rfl⟩,
  ⟨by kernel_rfl, by kernel_rfl, rfl⟩,
  ⟨by kernel_rfl, by kernel_rfl, rfl⟩,
  ⟨by kernel_rfl, by kernel_rfl, rfl⟩,
  ⟨by kernel_rfl, by kernel_rfl, rfl⟩,
  ⟨by kernel_rfl, by kernel_rfl, rfl⟩,
  ⟨by kernel_rfl, by kernel_rfl, rfl⟩,
  ⟨by kernel_rfl, by kernel_rfl, rfl⟩,
  ⟨by kernel_rfl, by kernel_rfl, rfl⟩,
  ⟨by kernel_rfl, by kernel_rfl, rfl⟩,
  ⟨by kernel_rfl, by kernel_rfl, rfl⟩,
  ⟨by kernel_rfl, by kernel_rfl, rfl⟩,
  ⟨by kernel_rfl, by kernel_rfl, rfl⟩,
  ⟨by kernel_rfl, by kernel_rfl, rfl⟩,
  ⟨by kernel_rfl, by kernel_rfl, rfl⟩,
  ⟨by kernel_rfl, by kernel_rfl, rfl⟩,
  ⟨by kernel_rfl, by kernel_rfl, rfl⟩,
  ⟨by kernel_rfl, by kernel_rfl, rfl⟩,
  ⟨by kernel_rfl, by kernel_rfl, rfl⟩,
  ⟨by kernel_rfl, by kernel_rfl, rfl⟩,
  ⟨by kernel_rfl, by kernel_rfl, rfl⟩,
  ⟨by kernel_rfl, by kernel_rfl, rfl⟩,
  ⟨by kernel_rfl, by kernel_rfl, rfl⟩,
  ⟨by kernel_rfl, by kernel_rfl, rfl⟩,
  ⟨by kernel_rfl, by kernel_rfl, rfl⟩,
  ⟨by kernel_rfl, by kernel_rfl, rfl⟩,
  ⟨by kernel_rfl, by kernel_rfl, rfl⟩,
  ⟨by kernel_rfl, by kernel_rfl, rfl⟩,
  ⟨by kernel_rfl, by kernel_rfl, rfl⟩,
  ⟨by kernel_rfl, by kernel_rfl, rfl⟩,
  ⟨by kernel_rfl, by kernel_rfl, rfl⟩,
  ⟨by kernel_rfl, by kernel_rfl, rfl⟩,
  ⟨by kernel_rfl, by kernel_rfl, rfl⟩,
  ⟨by kernel_rfl, by kernel_rfl, rfl⟩,
  ⟨by kernel_rfl, by kernel_rfl, rfl⟩,
  ⟨by kernel_rfl, by kernel_rfl, rfl⟩,
  ⟨by kernel_rfl, by kernel_rfl, rfl⟩,
  ⟨by kernel_rfl, by kernel_rfl, rfl⟩,
  ⟨by kernel_rfl, by kernel_rfl, rfl⟩,
  ⟨by kernel_rfl, by kernel_rfl, rfl⟩,
  ⟨by kernel_rfl, by kernel_rfl, rfl⟩,
  ⟨by kernel_rfl, by kernel_rfl, rfl⟩,
  ⟨by kernel_rfl, by kernel_rfl, rfl⟩,
  ⟨by kernel_rfl, by kernel_rfl, rfl⟩,
  ⟨by kernel_rfl, by kernel_rfl, rfl⟩,
  ⟨by kernel_rfl, by kernel_rfl, rfl⟩,
  ⟨by kernel_rfl, by kernel_rfl, rfl⟩,
  ⟨by kernel_rfl, by kernel_rfl, rfl⟩,
  ⟨by kernel_rfl, by kernel_rfl, rfl⟩,
  ⟨by kernel_rfl, by kernel_rfl, rfl⟩,
  ⟨by kernel_rfl, by kernel_rfl, rfl⟩,
  ⟨by kernel_rfl, by kernel_rfl, rfl⟩,
  ⟨by kernel_rfl, by kernel_rfl, rfl⟩,
  ⟨by kernel_rfl, by kernel_rfl, rfl⟩,
  ⟨by kernel_rfl, by kernel_rfl, rfl⟩,
  ⟨by kernel_rfl, by kernel_rfl, rfl⟩,
  ⟨by kernel_rfl, by kernel_rfl, rfl⟩,
  ⟨by kernel_rfl, by kernel_rfl, rfl⟩,
  ⟨by kernel_rfl, by kernel_rfl, rfl⟩,
  ⟨by kernel_rfl, by kernel_rfl, rfl⟩,
  ⟨by kernel_rfl, by kernel_rfl, rfl⟩,
  ⟨by kernel_rfl, by kernel_rfl, rfl⟩,
  ⟨by kernel_rfl, by kernel_rfl, rfl⟩,
  ⟨by kernel_rfl, by kernel_rfl, rfl⟩,
  ⟨by kernel_rfl, by kernel_rfl, rfl⟩,
  ⟨by kernel_rfl, by kernel_rfl, rfl⟩,
  ⟨by kernel_rfl, by kernel_rfl, rfl⟩,
  ⟨by kernel_rfl, by kernel_rfl, rfl⟩,
  ⟨by kernel_rfl, by kernel_rfl, rfl⟩,
  ⟨by kernel_rfl, by kernel_rfl, rfl⟩,
  ⟨by kernel_rfl, by kernel_rfl, rfl⟩,
  ⟨by kernel_rfl, by kernel_rfl, rfl⟩,
  ⟨by kernel_rfl, by kernel_rfl, rfl⟩,
  ⟨by kernel_rfl, by kernel_rfl, rfl⟩,
  ⟨by kernel_rfl, by kernel_rfl, rfl⟩,
  ⟨by kernel_rfl, by kernel_rfl, rfl⟩,
  ⟨by kernel_rfl, by kernel_rfl, rfl⟩,
  ⟨by kernel_rfl, by kernel_rfl, rfl⟩,
  ⟨by kernel_rfl, by kernel_rfl, rfl⟩,
  ⟨by kernel_rfl, by kernel_rfl, rfl⟩,
  ⟨by kernel_rfl, by kernel_rfl, rfl⟩,
  ⟨by kernel_rfl, by kernel_rfl, rfl⟩,
  ⟨by kernel_rfl, by kernel_rfl, rfl⟩,
  ⟨by kernel_rfl, by kernel_rfl, rfl⟩,
  ⟨by kernel_rfl, by kernel_rfl, rfl⟩,
  ⟨by kernel_rfl, by kernel_rfl, rfl⟩,
  ⟨by kernel_rfl, by kernel_rfl, rfl⟩,
  ⟨by kernel_rfl, by kernel_rfl, rfl⟩,
  ⟨by kernel_rfl, by kernel_rfl, rfl⟩,
  ⟨by kernel_rfl, by kernel_rfl, rfl⟩,
  ⟨by kernel_rfl, by kernel_rfl, rfl⟩,
  ⟨by kernel_rfl, by kernel_rfl, rfl⟩,
  ⟨by kernel_rfl, by kernel_rfl, rfl⟩,
  ⟨by kernel_rfl, by kernel_rfl, rfl⟩,
  ⟨by kernel_rfl, by kernel_rfl, rfl⟩,
  ⟨by kernel_rfl, by kernel_rfl, rfl⟩,
  ⟨by kernel_rfl, by kernel_rfl, rfl⟩,
  ⟨by kernel_rfl, by kernel_rfl, rfl⟩,
  ⟨by kernel_rfl, by kernel_rfl, rfl⟩,
  ⟨by kernel_rfl, by kernel_rfl, rfl⟩,
  ⟨by kernel_rfl, by kernel_rfl, rfl⟩,
  ⟨by kernel_rfl, by kernel_rfl, rfl⟩,
  ⟨by kernel_rfl, by kernel_rfl, rfl⟩,
  ⟨by kernel_rfl, by kernel_rfl, rfl⟩,
  ⟨by kernel_rfl, by kernel_rfl, rfl⟩,
  trivial⟩
def Tryd.fns : List Nat := [2, 3, 4, 5, 6, 7, 8, 9, 10, 11, 12, 13, 14, 15, 16, 17, 18, 19, 20, 21, 22, 23, 24, 25, 26, 27, 28, 29, 30, 31, 32, 33, 34, 35, 36, 37, 38, 39, 40, 41, 42, 43, 44, 45, 46, 47, 48, 49, 50, 51, 52, 53, 54, 55, 56, 57, 58, 59, 60, 61, 62, 63, 64, 65, 66, 67, 68, 69, 70, 71, 72, 73, 74, 75, 76, 77, 78, 79, 80, 81, 82, 83, 84, 85, 86, 87, 88, 89, 90, 91, 92, 93, 94, 95, 96, 97, 98, 100, 101, 102, 103, 104, 105, 106, 107, 108, 109, 110, 112, 113, 114, 115, 116, 117, 119, 150]
theorem Tryd.fns_enter : (Tryd.fns.all (entersB Tryd.prog)) = true := by kernel_rfl
noncomputable def Tryd.cxg (N : Nat) (SR SB SC : List Nat) (n0 : Nat) (M : List Nat) (w : World) : Cx := ⟨Tryd.prog, Tryd.tab, Tryd.fns, N, SR, SB, SC, n0, M, w, none⟩
noncomputable abbrev Tryd.cxm (N : Nat) (SR SB SC M : List Nat) (w : World) : Cx := Tryd.cxg N SR SB SC w.heap.size M w
noncomputable abbrev Tryd.cx (N : Nat) (SR SB SC : List Nat) (w : World) : Cx := Tryd.cxm N SR SB SC [] w
theorem Tryd.ok (N : Nat) (SR SB SC : List Nat) (n0 : Nat) (M : List Nat) (w : World) : COk (Tryd.cxg N SR SB SC n0 M w) :=
  ⟨Tryd.tok, fun _ h => enters_of (memN_all Tryd.fns_enter h), by kernel_rfl⟩
theorem Tryd.eqIn22 (d : Nat) (a0 b0 : Int) (a1 b1 : Int) (a2 b2 : Int) (a3 b3 : Int) (a4 b4 : Int) (w : World) : (Op.equalIn (d + 1 + 1) 22 (.agg #[.int .i64 a0, .int .i64 a1, .int .i64 a2, .int .i64 a3, .int .i64 a4]) (.agg #[.int .i64 b0, .int .i64 b1, .int .i64 b2, .int .i64 b3, .int .i64 b4])).run Tryd.prog w = .ok (a0 == b0 && (a1 == b1 && (a2 == b2 && (a3 == b3 && (a4 == b4 && true))))) w :=
  equalIn_st [(true, 3, 0), (true, 3, 1), (true, 3, 2), (true, 3, 3), (true, 3, 4)] (by kernel_rfl) (by kernel_rfl) (by kernel_rfl)
    (eqs_cons (.int .i64 a0) (.int .i64 b0) (by kernel_rfl) (by kernel_rfl) (run_equalIn_int w (d) 3 .i64 .i64 _ _ (by kernel_rfl)) (eqs_cons (.int .i64 a1) (.int .i64 b1) (by kernel_rfl) (by kernel_rfl) (run_equalIn_int w (d) 3 .i64 .i64 _ _ (by kernel_rfl)) (eqs_cons (.int .i64 a2) (.int .i64 b2) (by kernel_rfl) (by kernel_rfl) (run_equalIn_int w (d) 3 .i64 .i64 _ _ (by kernel_rfl)) (eqs_cons (.int .i64 a3) (.int .i64 b3) (by kernel_rfl) (by kernel_rfl) (run_equalIn_int w (d) 3 .i64 .i64 _ _ (by kernel_rfl)) (eqs_cons (.int .i64 a4) (.int .i64 b4) (by kernel_rfl) (by kernel_rfl) (run_equalIn_int w (d) 3 .i64 .i64 _ _ (by kernel_rfl)) eqs_nil)))))
theorem Tryd.eq22 (a0 b0 : Int) (a1 b1 : Int) (a2 b2 : Int) (a3 b3 : Int) (a4 b4 : Int) (w : World) : (Op.equal 22 (SV.a [.v (.int .i64 a0), .v (.int .i64 a1), .v (.int .i64 a2), .v (.int .i64 a3), .v (.int .i64 a4)]).real (SV.a [.v (.int .i64 b0), .v (.int .i64 b1), .v (.int .i64 b2), .v (.int .i64 b3), .v (.int .i64 b4)]).real).run Tryd.prog w = .ok (a0 == b0 && (a1 == b1 && (a2 == b2 && (a3 == b3 && (a4 == b4 && true))))) w :=
  Tryd.eqIn22 9998 a0 b0 a1 b1 a2 b2 a3 b3 a4 b4 w
theorem Tryd.eqg22 : Tryd.prog.eqGuardType Tryd.prog.depth 22 = false := by kernel_rfl
theorem Tryd.eqIn23 (d : Nat) (a0 b0 : Int) (a1 b1 : Int) (a2 b2 : Int) (a3 b3 : Int) (a4 b4 : Int) (w : World) : (Op.equalIn (d + 1 + 1) 23 (.agg #[.int .i64 a0, .int .i64 a1, .int .i64 a2, .int .i64 a3, .int .i64 a4]) (.agg #[.int .i64 b0, .int .i64 b1, .int .i64 b2, .int .i64 b3, .int .i64 b4])).run Tryd.prog w = .ok (a0 == b0 && (a1 == b1 && (a2 == b2 && (a3 == b3 && (a4 == b4 && true))))) w :=
  equalIn_st [(true, 3, 0), (true, 3, 1), (true, 3, 2), (true, 3, 3), (true, 3, 4)] (by kernel_rfl) (by kernel_rfl) (by kernel_rfl)
    (eqs_cons (.int .i64 a0) (.int .i64 b0) (by kernel_rfl) (by kernel_rfl) (run_equalIn_int w (d) 3 .i64 .i64 _ _ (by kernel_rfl)) (eqs_cons (.int .i64 a1) (.int .i64 b1) (by kernel_rfl) (by kernel_rfl) (run_equalIn_int w (d) 3 .i64 .i64 _ _ (by kernel_rfl)) (eqs_cons (.int .i64 a2) (.int .i64 b2) (by kernel_rfl) (by kernel_rfl) (run_equalIn_int w (d) 3 .i64 .i64 _ _ (by kernel_rfl)) (eqs_cons (.int .i64 a3) (.int .i64 b3) (by kernel_rfl) (by kernel_rfl) (run_equalIn_int w (d) 3 .i64 .i64 _ _ (by kernel_rfl)) (eqs_cons (.int .i64 a4) (.int .i64 b4) (by kernel_rfl) (by kernel_rfl) (run_equalIn_int w (d) 3 .i64 .i64 _ _ (by kernel_rfl)) eqs_nil)))))
theorem Tryd.eq23 (a0 b0 : Int) (a1 b1 : Int) (a2 b2 : Int) (a3 b3 : Int) (a4 b4 : Int) (w : World) : (Op.equal 23 (SV.a [.v (.int .i64 a0), .v (.int .i64 a1), .v (.int .i64 a2), .v (.int .i64 a3), .v (.int .i64 a4)]).real (SV.a [.v (.int .i64 b0), .v (.int .i64 b1), .v (.int .i64 b2), .v (.int .i64 b3), .v (.int .i64 b4)]).real).run Tryd.prog w = .ok (a0 == b0 && (a1 == b1 && (a2 == b2 && (a3 == b3 && (a4 == b4 && true))))) w :=
  Tryd.eqIn23 9998 a0 b0 a1 b1 a2 b2 a3 b3 a4 b4 w
theorem Tryd.eqg23 : Tryd.prog.eqGuardType Tryd.prog.depth 23 = false := by kernel_rfl
theorem Tryd.eqIn51 (d : Nat) (a0 b0 : Int) (a1 b1 : Int) (w : World) : (Op.equalIn (d + 1 + 1) 51 (.agg #[.int .i64 a0, .int .i64 a1]) (.agg #[.int .i64 b0, .int .i64 b1])).run Tryd.prog w = .ok (a0 == b0 && (a1 == b1 && true)) w :=
  equalIn_st [(true, 3, 0), (true, 3, 1)] (by kernel_rfl) (by kernel_rfl) (by kernel_rfl)
    (eqs_cons (.int .i64 a0) (.int .i64 b0) (by kernel_rfl) (by kernel_rfl) (run_equalIn_int w (d) 3 .i64 .i64 _ _ (by kernel_rfl)) (eqs_cons (.int .i64 a1) (.int .i64 b1) (by kernel_rfl) (by kernel_rfl) (run_equalIn_int w (d) 3 .i64 .i64 _ _ (by kernel_rfl)) eqs_nil))
theorem Tryd.eq51 (a0 b0 : Int) (a1 b1 : Int) (w : World) : (Op.equal 51 (SV.a [.v (.int .i64 a0), .v (.int .i64 a1)]).real (SV.a [.v (.int .i64 b0), .v (.int .i64 b1)]).real).run Tryd.prog w = .ok (a0 == b0 && (a1 == b1 && true)) w :=
  Tryd.eqIn51 9998 a0 b0 a1 b1 w
theorem Tryd.eqg51 : Tryd.prog.eqGuardType Tryd.prog.depth 51 = false := by kernel_rfl
theorem Tryd.eqIn52 (d : Nat) (a0 b0 : Int) (a1 b1 : Int) (w : World) : (Op.equalIn (d + 1 + 1) 52 (.agg #[.int .i64 a0, .int .i64 a1]) (.agg #[.int .i64 b0, .int .i64 b1])).run Tryd.prog w = .ok (a0 == b0 && (a1 == b1 && true)) w :=
  equalIn_st [(true, 3, 0), (true, 3, 1)] (by kernel_rfl) (by kernel_rfl) (by kernel_rfl)
    (eqs_cons (.int .i64 a0) (.int .i64 b0) (by kernel_rfl) (by kernel_rfl) (run_equalIn_int w (d) 3 .i64 .i64 _ _ (by kernel_rfl)) (eqs_cons (.int .i64 a1) (.int .i64 b1) (by kernel_rfl) (by kernel_rfl) (run_equalIn_int w (d) 3 .i64 .i64 _ _ (by kernel_rfl)) eqs_nil))
theorem Tryd.eq52 (a0 b0 : Int) (a1 b1 : Int) (w : World) : (Op.equal 52 (SV.a [.v (.int .i64 a0), .v (.int .i64 a1)]).real (SV.a [.v (.int .i64 b0), .v (.int .i64 b1)]).real).run Tryd.prog w = .ok (a0 == b0 && (a1 == b1 && true)) w :=
  Tryd.eqIn52 9998 a0 b0 a1 b1 w
theorem Tryd.eqg52 : Tryd.prog.eqGuardType Tryd.prog.depth 52 = false := by kernel_rfl
theorem Tryd.eqIn66 (d : Nat) (a0 b0 : Int) (a1 b1 : Int) (a2 b2 : Int) (a3 b3 : Int) (a4 b4 : Int) (w : World) : (Op.equalIn (d + 1 + 1) 66 (.agg #[.int .i64 a0, .int .i64 a1, .int .i64 a2, .int .i64 a3, .int .i64 a4]) (.agg #[.int .i64 b0, .int .i64 b1, .int .i64 b2, .int .i64 b3, .int .i64 b4])).run Tryd.prog w = .ok (a0 == b0 && (a1 == b1 && (a2 == b2 && (a3 == b3 && (a4 == b4 && true))))) w :=
  equalIn_st [(true, 3, 0), (true, 3, 1), (true, 3, 2), (true, 3, 3), (true, 3, 4)] (by kernel_rfl) (by kernel_rfl) (by kernel_rfl)
    (eqs_cons (.int .i64 a0) (.int .i64 b0) (by kernel_rfl) (by kernel_rfl) (run_equalIn_int w (d) 3 .i64 .i64 _ _ (by kernel_rfl)) (eqs_cons (.int .i64 a1) (.int .i64 b1) (by kernel_rfl) (by kernel_rfl) (run_equalIn_int w (d) 3 .i64 .i64 _ _ (by kernel_rfl)) (eqs_cons (.int .i64 a2) (.int .i64 b2) (by kernel_rfl) (by kernel_rfl) (run_equalIn_int w (d) 3 .i64 .i64 _ _ (by kernel_rfl)) (eqs_cons (.int .i64 a3) (.int .i64 b3) (by kernel_rfl) (by kernel_rfl) (run_equalIn_int w (d) 3 .i64 .i64 _ _ (by kernel_rfl)) (eqs_cons (.int .i64 a4) (.int .i64 b4) (by kernel_rfl) (by kernel_rfl) (run_equalIn_int w (d) 3 .i64 .i64 _ _ (by kernel_rfl)) eqs_nil)))))
theorem Tryd.eq66 (a0 b0 : Int) (a1 b1 : Int) (a2 b2 : Int) (a3 b3 : Int) (a4 b4 : Int) (w : World) : (Op.equal 66 (SV.a [.v (.int .i64 a0), .v (.int .i64 a1), .v (.int .i64 a2), .v (.int .i64 a3), .v (.int .i64 a4)]).real (SV.a [.v (.int .i64 b0), .v (.int .i64 b1), .v (.int .i64 b2), .v (.int .i64 b3), .v (.int .i64 b4)]).real).run Tryd.prog w = .ok (a0 == b0 && (a1 == b1 && (a2 == b2 && (a3 == b3 && (a4 == b4 && true))))) w :=
  Tryd.eqIn66 9998 a0 b0 a1 b1 a2 b2 a3 b3 a4 b4 w
theorem Tryd.eqg66 : Tryd.prog.eqGuardType Tryd.prog.depth 66 = false := by kernel_rfl
theorem Tryd.eqIn113 (d : Nat) (a0 b0 : Int) (a1 b1 : Int) (w : World) : (Op.equalIn (d + 1 + 1) 113 (.agg #[.int .i64 a0, .int .i64 a1]) (.agg #[.int .i64 b0, .int .i64 b1])).run Tryd.prog w = .ok (a0 == b0 && (a1 == b1 && true)) w :=
  equalIn_st [(true, 3, 0), (true, 3, 1)] (by kernel_rfl) (by kernel_rfl) (by kernel_rfl)
    (eqs_cons (.int .i64 a0) (.int .i64 b0) (by kernel_rfl) (by kernel_rfl) (run_equalIn_int w (d) 3 .i64 .i64 _ _ (by kernel_rfl)) (eqs_cons (.int .i64 a1) (.int .i64 b1) (by kernel_rfl) (by kernel_rfl) (run_equalIn_int w (d) 3 .i64 .i64 _ _ (by kernel_rfl)) eqs_nil))
theorem Tryd.eq113 (a0 b0 : Int) (a1 b1 : Int) (w : World) : (Op.equal 113 (SV.a [.v (.int .i64 a0), .v (.int .i64 a1)]).real (SV.a [.v (.int .i64 b0), .v (.int .i64 b1)]).real).run Tryd.prog w = .ok (a0 == b0 && (a1 == b1 && true)) w :=
  Tryd.eqIn113 9998 a0 b0 a1 b1 w
theorem Tryd.eqg113 : Tryd.prog.eqGuardType Tryd.prog.depth 113 = false := by kernel_rfl
theorem Tryd.eqIn158 (d : Nat) (a0 b0 : ByteArray) (w : World) : (Op.equalIn (d + 1 + 1) 158 (.agg #[.string a0]) (.agg #[.string b0])).run Tryd.prog w = .ok (a0 == b0 && true) w :=
  equalIn_st [(true, 9, 0)] (by kernel_rfl) (by kernel_rfl) (by kernel_rfl)
    (eqs_cons (.string a0) (.string b0) (by kernel_rfl) (by kernel_rfl) (eqs_string w (d) 9 _ _ (by kernel_rfl)) eqs_nil)
theorem Tryd.eq158 (a0 b0 : ByteArray) (w : World) : (Op.equal 158 (SV.a [.v (.string a0)]).real (SV.a [.v (.string b0)]).real).run Tryd.prog w = .ok (a0 == b0 && true) w :=
  Tryd.eqIn158 9998 a0 b0 w
theorem Tryd.eqg158 : Tryd.prog.eqGuardType Tryd.prog.depth 158 = false := by kernel_rfl
theorem Tryd.eqIn159 (d : Nat) (a0 b0 : ByteArray) (w : World) : (Op.equalIn (d + 1 + 1) 159 (.agg #[.string a0]) (.agg #[.string b0])).run Tryd.prog w = .ok (a0 == b0 && true) w :=
  equalIn_st [(true, 9, 0)] (by kernel_rfl) (by kernel_rfl) (by kernel_rfl)
    (eqs_cons (.string a0) (.string b0) (by kernel_rfl) (by kernel_rfl) (eqs_string w (d) 9 _ _ (by kernel_rfl)) eqs_nil)
theorem Tryd.eq159 (a0 b0 : ByteArray) (w : World) : (Op.equal 159 (SV.a [.v (.string a0)]).real (SV.a [.v (.string b0)]).real).run Tryd.prog w = .ok (a0 == b0 && true) w :=
  Tryd.eqIn159 9998 a0 b0 w
theorem Tryd.eqg159 : Tryd.prog.eqGuardType Tryd.prog.depth 159 = false := by kernel_rfl
theorem Tryd.eqIn162 (d : Nat) (a0 b0 : Int) (a1 b1 : Int) (w : World) : (Op.equalIn (d + 1 + 1) 162 (.agg #[.int .u8 a0, .int .u8 a1]) (.agg #[.int .u8 b0, .int .u8 b1])).run Tryd.prog w = .ok (a0 == b0 && (a1 == b1 && true)) w :=
  equalIn_st [(true, 5, 0), (true, 5, 1)] (by kernel_rfl) (by kernel_rfl) (by kernel_rfl)
    (eqs_cons (.int .u8 a0) (.int .u8 b0) (by kernel_rfl) (by kernel_rfl) (run_equalIn_int w (d) 5 .u8 .u8 _ _ (by kernel_rfl)) (eqs_cons (.int .u8 a1) (.int .u8 b1) (by kernel_rfl) (by kernel_rfl) (run_equalIn_int w (d) 5 .u8 .u8 _ _ (by kernel_rfl)) eqs_nil))
theorem Tryd.eq162 (a0 b0 : Int) (a1 b1 : Int) (w : World) : (Op.equal 162 (SV.a [.v (.int .u8 a0), .v (.int .u8 a1)]).real (SV.a [.v (.int .u8 b0), .v (.int .u8 b1)]).real).run Tryd.prog w = .ok (a0 == b0 && (a1 == b1 && true)) w :=
  Tryd.eqIn162 9998 a0 b0 a1 b1 w
theorem Tryd.eqg162 : Tryd.prog.eqGuardType Tryd.prog.depth 162 = false := by kernel_rfl
theorem Tryd.eqIn163 (d : Nat) (a0 b0 : Int) (a1 b1 : Int) (w : World) : (Op.equalIn (d + 1 + 1) 163 (.agg #[.int .u8 a0, .int .u8 a1]) (.agg #[.int .u8 b0, .int .u8 b1])).run Tryd.prog w = .ok (a0 == b0 && (a1 == b1 && true)) w :=
  equalIn_st [(true, 5, 0), (true, 5, 1)] (by kernel_rfl) (by kernel_rfl) (by kernel_rfl)
    (eqs_cons (.int .u8 a0) (.int .u8 b0) (by kernel_rfl) (by kernel_rfl) (run_equalIn_int w (d) 5 .u8 .u8 _ _ (by kernel_rfl)) (eqs_cons (.int .u8 a1) (.int .u8 b1) (by kernel_rfl) (by kernel_rfl) (run_equalIn_int w (d) 5 .u8 .u8 _ _ (by kernel_rfl)) eqs_nil))
theorem Tryd.eq163 (a0 b0 : Int) (a1 b1 : Int) (w : World) : (Op.equal 163 (SV.a [.v (.int .u8 a0), .v (.int .u8 a1)]).real (SV.a [.v (.int .u8 b0), .v (.int .u8 b1)]).real).run Tryd.prog w = .ok (a0 == b0 && (a1 == b1 && true)) w :=
  Tryd.eqIn163 9998 a0 b0 a1 b1 w
theorem Tryd.eqg163 : Tryd.prog.eqGuardType Tryd.prog.depth 163 = false := by kernel_rfl
end Go.Proofs.YtodecgpjidlldaaDoor
