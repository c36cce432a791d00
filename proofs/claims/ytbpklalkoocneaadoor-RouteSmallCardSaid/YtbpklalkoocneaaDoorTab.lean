import Derived.Test.YtbpklalkoocneaaDoorSatB
import Derived.Test.YtbpklalkoocneaaDoorProg
set_option linter.unusedSimpArgs false
set_option linter.unusedVariables false
namespace Go.Proofs.YtbpklalkoocneaaDoor
open Go Go.RowKit Sat
set_option maxRecDepth 100000
noncomputable def Tryd.tab : TT := [
  (1, ⟨.other, 1, 8, .nilFunc⟩),
  (2, ⟨.int .i64, 1, 8, .int .i64 0⟩),
  (3, ⟨.int .i64, 1, 8, .int .i64 0⟩),
  (4, ⟨.bool, 1, 1, .bool false⟩),
  (5, ⟨.int .u8, 1, 1, .int .u8 0⟩),
  (9, ⟨.str, 1, 16, .string ⟨#[]⟩⟩),
  (12, ⟨.int .u64, 1, 8, .int .u64 0⟩),
  (13, ⟨.st [(9, 0), (12, 1)], 2, 24, .agg #[.string ⟨#[]⟩, .int .u64 0]⟩),
  (19, ⟨.st [(17, 0)], 1, 8, .agg #[.pointer none]⟩),
  (20, ⟨.ifc, 1, 16, .nilIface⟩),
  (21, ⟨.int .i32, 1, 4, .int .i32 0⟩),
  (22, ⟨.slice 26, 1, 24, .slice none 0 0⟩),
  (23, ⟨.other, 1, 8, .nilFunc⟩),
  (24, ⟨.other, 1, 8, .nilFunc⟩),
  (25, ⟨.st [(9, 0), (3, 1), (3, 2)], 3, 32, .agg #[.string ⟨#[]⟩, .int .i64 0, .int .i64 0]⟩),
  (26, ⟨.st [(9, 0), (3, 1), (3, 2)], 3, 32, .agg #[.string ⟨#[]⟩, .int .i64 0, .int .i64 0]⟩),
  (27, ⟨.other, 1, 8, .nilFunc⟩),
  (28, ⟨.slice 66, 1, 24, .slice none 0 0⟩),
  (29, ⟨.other, 1, 8, .nilFunc⟩),
  (30, ⟨.int .i64, 1, 8, .int .i64 0⟩),
  (32, ⟨.other, 1, 8, .nilFunc⟩),
  (34, ⟨.other, 1, 8, .nilFunc⟩),
  (36, ⟨.other, 1, 8, .nilFunc⟩),
  (37, ⟨.other, 1, 8, .nilFunc⟩),
  (38, ⟨.other, 1, 8, .nilFunc⟩),
  (39, ⟨.slice 42, 1, 24, .slice none 0 0⟩),
  (40, ⟨.other, 1, 8, .nilFunc⟩),
  (41, ⟨.st [(9, 0), (9, 1), (3, 2)], 3, 40, .agg #[.string ⟨#[]⟩, .string ⟨#[]⟩, .int .i64 0]⟩),
  (42, ⟨.st [(9, 0), (9, 1), (3, 2)], 3, 40, .agg #[.string ⟨#[]⟩, .string ⟨#[]⟩, .int .i64 0]⟩),
  (43, ⟨.other, 1, 8, .nilFunc⟩),
  (45, ⟨.other, 1, 8, .nilFunc⟩),
  (46, ⟨.other, 1, 8, .nilFunc⟩),
  (47, ⟨.other, 1, 8, .nilFunc⟩),
  (48, ⟨.int .u16, 1, 2, .int .u16 0⟩),
  (50, ⟨.other, 1, 8, .nilFunc⟩),
  (51, ⟨.other, 1, 8, .nilFunc⟩),
  (52, ⟨.other, 1, 8, .nilFunc⟩),
  (53, ⟨.other, 1, 8, .nilFunc⟩),
  (54, ⟨.other, 1, 8, .nilFunc⟩),
  (55, ⟨.slice 9, 1, 24, .slice none 0 0⟩),
  (56, ⟨.other, 1, 8, .nilFunc⟩),
  (57, ⟨.other, 1, 8, .nilFunc⟩),
  (59, ⟨.other, 1, 8, .nilFunc⟩),
  (60, ⟨.other, 1, 8, .nilFunc⟩),
  (62, ⟨.other, 1, 8, .nilFunc⟩),
  (64, ⟨.other, 1, 8, .nilFunc⟩),
  (65, ⟨.st [(5, 0), (5, 1), (5, 2)], 3, 3, .agg #[.int .u8 0, .int .u8 0, .int .u8 0]⟩),
  (66, ⟨.st [(5, 0), (5, 1), (5, 2)], 3, 3, .agg #[.int .u8 0, .int .u8 0, .int .u8 0]⟩),
  (67, ⟨.slice 5, 1, 24, .slice none 0 0⟩),
  (68, ⟨.other, 1, 8, .nilFunc⟩),
  (69, ⟨.other, 1, 8, .nilFunc⟩),
  (70, ⟨.other, 1, 8, .nilFunc⟩),
  (71, ⟨.arr 2 26, 6, 64, .agg #[.string ⟨#[]⟩, .int .i64 0, .int .i64 0, .string ⟨#[]⟩, .int .i64 0, .int .i64 0]⟩),
  (72, ⟨.other, 1, 8, .nilFunc⟩),
  (73, ⟨.ifc, 1, 16, .nilIface⟩),
  (74, ⟨.ifc, 1, 16, .nilIface⟩),
  (76, ⟨.other, 1, 8, .nilFunc⟩),
  (77, ⟨.other, 1, 8, .nilFunc⟩),
  (78, ⟨.other, 1, 8, .nilFunc⟩),
  (79, ⟨.other, 1, 8, .nilFunc⟩),
  (80, ⟨.other, 1, 8, .nilFunc⟩),
  (81, ⟨.other, 1, 8, .nilFunc⟩),
  (82, ⟨.other, 1, 8, .nilFunc⟩),
  (83, ⟨.other, 1, 8, .nilFunc⟩),
  (84, ⟨.other, 1, 8, .nilFunc⟩),
  (86, ⟨.other, 1, 8, .nilFunc⟩),
  (87, ⟨.other, 1, 8, .nilFunc⟩),
  (88, ⟨.slice 90, 1, 24, .slice none 0 0⟩),
  (89, ⟨.other, 1, 8, .nilFunc⟩),
  (90, ⟨.st [(9, 0), (9, 1), (3, 2)], 3, 40, .agg #[.string ⟨#[]⟩, .string ⟨#[]⟩, .int .i64 0]⟩),
  (91, ⟨.slice 3, 1, 24, .slice none 0 0⟩),
  (92, ⟨.other, 1, 8, .nilFunc⟩),
  (93, ⟨.other, 1, 8, .nilFunc⟩),
  (94, ⟨.other, 1, 8, .nilFunc⟩),
  (95, ⟨.other, 1, 8, .nilFunc⟩),
  (96, ⟨.other, 1, 8, .nilFunc⟩),
  (97, ⟨.other, 1, 8, .nilFunc⟩),
  (98, ⟨.other, 1, 8, .nilFunc⟩),
  (99, ⟨.other, 1, 8, .nilFunc⟩),
  (100, ⟨.int .i64, 1, 8, .int .i64 0⟩),
  (102, ⟨.other, 1, 8, .nilFunc⟩),
  (103, ⟨.ptr 120, 1, 8, .pointer none⟩),
  (104, ⟨.other, 1, 8, .nilFunc⟩),
  (105, ⟨.other, 1, 8, .nilFunc⟩),
  (106, ⟨.other, 1, 8, .nilFunc⟩),
  (107, ⟨.other, 1, 8, .nilFunc⟩),
  (108, ⟨.other, 1, 8, .nilFunc⟩),
  (109, ⟨.arr 24 5, 24, 24, .agg #[.int .u8 0, .int .u8 0, .int .u8 0, .int .u8 0, .int .u8 0, .int .u8 0, .int .u8 0, .int .u8 0, .int .u8 0, .int .u8 0, .int .u8 0, .int .u8 0, .int .u8 0, .int .u8 0, .int .u8 0, .int .u8 0, .int .u8 0, .int .u8 0, .int .u8 0, .int .u8 0, .int .u8 0, .int .u8 0, .int .u8 0, .int .u8 0]⟩),
  (110, ⟨.int .u64, 1, 8, .int .u64 0⟩),
  (111, ⟨.other, 1, 8, .nilFunc⟩),
  (112, ⟨.other, 1, 8, .nilFunc⟩),
  (114, ⟨.other, 1, 8, .nilFunc⟩),
  (116, ⟨.other, 1, 8, .nilFunc⟩),
  (117, ⟨.int .u64, 1, 8, .int .u64 0⟩),
  (118, ⟨.other, 1, 8, .nilFunc⟩),
  (119, ⟨.st [(9, 0), (9, 1), (74, 2)], 3, 48, .agg #[.string ⟨#[]⟩, .string ⟨#[]⟩, .nilIface]⟩),
  (120, ⟨.st [(9, 0), (9, 1), (74, 2)], 3, 48, .agg #[.string ⟨#[]⟩, .string ⟨#[]⟩, .nilIface]⟩),
  (121, ⟨.other, 1, 8, .nilFunc⟩),
  (123, ⟨.other, 1, 8, .nilFunc⟩),
  (124, ⟨.other, 1, 8, .nilFunc⟩),
  (125, ⟨.other, 1, 8, .nilFunc⟩),
  (126, ⟨.other, 1, 8, .nilFunc⟩),
  (127, ⟨.arr 20 110, 20, 160, .agg #[.int .u64 0, .int .u64 0, .int .u64 0, .int .u64 0, .int .u64 0, .int .u64 0, .int .u64 0, .int .u64 0, .int .u64 0, .int .u64 0, .int .u64 0, .int .u64 0, .int .u64 0, .int .u64 0, .int .u64 0, .int .u64 0, .int .u64 0, .int .u64 0, .int .u64 0, .int .u64 0]⟩),
  (128, ⟨.int .u32, 1, 4, .int .u32 0⟩),
  (129, ⟨.arr 65 5, 65, 65, .agg #[.int .u8 0, .int .u8 0, .int .u8 0, .int .u8 0, .int .u8 0, .int .u8 0, .int .u8 0, .int .u8 0, .int .u8 0, .int .u8 0, .int .u8 0, .int .u8 0, .int .u8 0, .int .u8 0, .int .u8 0, .int .u8 0, .int .u8 0, .int .u8 0, .int .u8 0, .int .u8 0, .int .u8 0, .int .u8 0, .int .u8 0, .int .u8 0, .int .u8 0, .int .u8 0, .int .u8 0, .int .u8 0, .int .u8 0, .int .u8 0, .int .u8 0, .int .u8 0, .int .u8 0, .int .u8 0, .int .u8 0, .int .u8 0, .int .u8 0, .int .u8 0, .int .u8 0, .int .u8 0, .int .u8 0, .int .u8 0, .int .u8 0, .int .u8 0, .int .u8 0, .int .u8 0, .int .u8 0, .int .u8 0, .int .u8 0, .int .u8 0, .int .u8 0, .int .u8 0, .int .u8 0, .int .u8 0, .int .u8 0, .int .u8 0, .int .u8 0, .int .u8 0, .int .u8 0, .int .u8 0, .int .u8 0, .int .u8 0, .int .u8 0, .int .u8 0, .int .u8 0]⟩),
  (130, ⟨.other, 1, 8, .nilFunc⟩),
  (131, ⟨.other, 1, 8, .nilFunc⟩),
  (132, ⟨.other, 1, 8, .nilFunc⟩),
  (133, ⟨.other, 1, 8, .nilFunc⟩),
  (134, ⟨.ptr 5, 1, 8, .pointer none⟩),
  (135, ⟨.ptr 137, 1, 8, .pointer none⟩),
  (136, ⟨.st [(9, 0)], 1, 16, .agg #[.string ⟨#[]⟩]⟩),
  (137, ⟨.st [(9, 0)], 1, 16, .agg #[.string ⟨#[]⟩]⟩),
  (138, ⟨.other, 1, 8, .nilFunc⟩),
  (139, ⟨.arr 256 5, 256, 256, .agg #[.int .u8 0, .int .u8 0, .int .u8 0, .int .u8 0, .int .u8 0, .int .u8 0, .int .u8 0, .int .u8 0, .int .u8 0, .int .u8 0, .int .u8 0, .int .u8 0, .int .u8 0, .int .u8 0, .int .u8 0, .int .u8 0, .int .u8 0, .int .u8 0, .int .u8 0, .int .u8 0, .int .u8 0, .int .u8 0, .int .u8 0, .int .u8 0, .int .u8 0, .int .u8 0, .int .u8 0, .int .u8 0, .int .u8 0, .int .u8 0, .int .u8 0, .int .u8 0, .int .u8 0, .int .u8 0, .int .u8 0, .int .u8 0, .int .u8 0, .int .u8 0, .int .u8 0, .int .u8 0, .int .u8 0, .int .u8 0, .int .u8 0, .int .u8 0, .int .u8 0, .int .u8 0, .int .u8 0, .int .u8 0, .int .u8 0, .int .u8 0, .int .u8 0, .int .u8 0, .int .u8 0, .int .u8 0, .int .u8 0, .int .u8 0, .int .u8 0, .int .u8 0, .int .u8 0, .int .u8 0, .int .u8 0, .int .u8 0, .int .u8 0, .int .u8 0, .int .u8 0, .int .u8 0, .int .u8 0, .int .u8 0, .int .u8 0, .int .u8 0, .int .u8 0, .int .u8 0, .int .u8 0, .int .u8 0, .int .u8 0, .int .u8 0, .int .u8 0, .int .u8 0, .int .u8 0, .int .u8 0, .int .u8 0, .int .u8 0, .int .u8 0, .int .u8 0, .int .u8 0, .int .u8 0, .int .u8 0, .int .u8 0, .int .u8 0, .int .u8 0, .int .u8 0, .int .u8 0, .int .u8 0, .int .u8 0, .int .u8 0, .int .u8 0, .int .u8 0, .int .u8 0, .int .u8 0, .int .u8 0, .int .u8 0, .int .u8 0, .int .u8 0, .int .u8 0, .int .u8 0, .int .u8 0, .int .u8 0, .int .u8 0, .int .u8 0, .int .u8 0, .int .u8 0, .int .u8 0, .int .u8 0, .int .u8 0, .int .u8 0, .int .u8 0, .int .u8 0, .int .u8 0, .int .u8 0, .int .u8 0, .int .u8 0, .int .u8 0, .int .u8 0, .int .u8 0, .int .u8 0, .int .u8 0, .int .u8 0, .int .u8 0, .int .u8 0, .int .u8 0, .int .u8 0, .int .u8 0, .int .u8 0, .int .u8 0, .int .u8 0, .int .u8 0, .int .u8 0, .int .u8 0, .int .u8 0, .int .u8 0, .int .u8 0, .int .u8 0, .int .u8 0, .int .u8 0, .int .u8 0, .int .u8 0, .int .u8 0, .int .u8 0, .int .u8 0, .int .u8 0, .int .u8 0, .int .u8 0, .int .u8 0, .int .u8 0, .int .u8 0, .int .u8 0, .int .u8 0, .int .u8 0, .int .u8 0, .int .u8 0, .int .u8 0, .int .u8 0, .int .u8 0, .int .u8 0, .int .u8 0, .int .u8 0, .int .u8 0, .int .u8 0, .int .u8 0, .int .u8 0, .int .u8 0, .int .u8 0, .int .u8 0, .int .u8 0, .int .u8 0, .int .u8 0, .int .u8 0, .int .u8 0, .int .u8 0, .int .u8 0, .int .u8 0, .int .u8 0, .int .u8 0, .int .u8 0, .int .u8 0, .int .u8 0, .int .u8 0, .int .u8 0, .int .u8 0, .int .u8 0, .int .u8 0, .int .u8 0, .int .u8 0, .int .u8 0, .int .u8 0, .int .u8 0, .int .u8 0, .int .u8 0, .int .u8 0, .int .u8 0, .int .u8 0, .int .u8 0, .int .u8 0, .int .u8 0, .int .u8 0, .int .u8 0, .int .u8 0, .int .u8 0, .int .u8 0, .int .u8 0, .int .u8 0, .int .u8 0, .int .u8 0, .int .u8 0, .int .u8 0, .int .u8 0, .int .u8 0, .int .u8 0, .int .u8 0, .int .u8 0, .int .u8 0, .int .u8 0, .int .u8 0, .int .u8 0, .int .u8 0, .int .u8 0, .int .u8 0, .int .u8 0, .int .u8 0, .int .u8 0, .int .u8 0, .int .u8 0, .int .u8 0, .int .u8 0, .int .u8 0, .int .u8 0, .int .u8 0, .int .u8 0, .int .u8 0, .int .u8 0, .int .u8 0, .int .u8 0, .int .u8 0, .int .u8 0, .int .u8 0, .int .u8 0, .int .u8 0, .int .u8 0, .int .u8 0, .int .u8 0, .int .u8 0, .int .u8 0, .int .u8 0, .int .u8 0, .int .u8 0, .int .u8 0]⟩),
  (140, ⟨.st [(5, 0), (5, 1)], 2, 2, .agg #[.int .u8 0, .int .u8 0]⟩),
  (141, ⟨.st [(5, 0), (5, 1)], 2, 2, .agg #[.int .u8 0, .int .u8 0]⟩),
  (142, ⟨.arr 16 141, 32, 32, .agg #[.int .u8 0, .int .u8 0, .int .u8 0, .int .u8 0, .int .u8 0, .int .u8 0, .int .u8 0, .int .u8 0, .int .u8 0, .int .u8 0, .int .u8 0, .int .u8 0, .int .u8 0, .int .u8 0, .int .u8 0, .int .u8 0, .int .u8 0, .int .u8 0, .int .u8 0, .int .u8 0, .int .u8 0, .int .u8 0, .int .u8 0, .int .u8 0, .int .u8 0, .int .u8 0, .int .u8 0, .int .u8 0, .int .u8 0, .int .u8 0, .int .u8 0, .int .u8 0]⟩),
  (144, ⟨.other, 1, 8, .nilFunc⟩),
  (145, ⟨.arr 32 5, 32, 32, .agg #[.int .u8 0, .int .u8 0, .int .u8 0, .int .u8 0, .int .u8 0, .int .u8 0, .int .u8 0, .int .u8 0, .int .u8 0, .int .u8 0, .int .u8 0, .int .u8 0, .int .u8 0, .int .u8 0, .int .u8 0, .int .u8 0, .int .u8 0, .int .u8 0, .int .u8 0, .int .u8 0, .int .u8 0, .int .u8 0, .int .u8 0, .int .u8 0, .int .u8 0, .int .u8 0, .int .u8 0, .int .u8 0, .int .u8 0, .int .u8 0, .int .u8 0, .int .u8 0]⟩),
  (146, ⟨.arr 64 5, 64, 64, .agg #[.int .u8 0, .int .u8 0, .int .u8 0, .int .u8 0, .int .u8 0, .int .u8 0, .int .u8 0, .int .u8 0, .int .u8 0, .int .u8 0, .int .u8 0, .int .u8 0, .int .u8 0, .int .u8 0, .int .u8 0, .int .u8 0, .int .u8 0, .int .u8 0, .int .u8 0, .int .u8 0, .int .u8 0, .int .u8 0, .int .u8 0, .int .u8 0, .int .u8 0, .int .u8 0, .int .u8 0, .int .u8 0, .int .u8 0, .int .u8 0, .int .u8 0, .int .u8 0, .int .u8 0, .int .u8 0, .int .u8 0, .int .u8 0, .int .u8 0, .int .u8 0, .int .u8 0, .int .u8 0, .int .u8 0, .int .u8 0, .int .u8 0, .int .u8 0, .int .u8 0, .int .u8 0, .int .u8 0, .int .u8 0, .int .u8 0, .int .u8 0, .int .u8 0, .int .u8 0, .int .u8 0, .int .u8 0, .int .u8 0, .int .u8 0, .int .u8 0, .int .u8 0, .int .u8 0, .int .u8 0, .int .u8 0, .int .u8 0, .int .u8 0, .int .u8 0]⟩),
  (147, ⟨.other, 1, 8, .nilFunc⟩),
  (153, ⟨.other, 1, 8, .nilFunc⟩),
  (156, ⟨.other, 1, 8, .nilFunc⟩)]
theorem Tryd.tok : TOk Tryd.prog Tryd.tab := ⟨
  ⟨by kernel_rfl, by kernel_rfl, rfl⟩,
  ⟨by kernel_rfl, by kernel_rfl, rfl⟩,
  ⟨by kernel_rfl, by kernel_rfl, rfl⟩,
  ⟨by kernel_rfl, by kernel_rfl, rfl⟩,
  ⟨by kernel_rfl, by kernel_rfl, rfl⟩,
  ⟨by kernel_rfl, by kernel_rfl, rfl⟩,
  ⟨by kernel_rfl, by kernel_rfl, rfl⟩,
  ⟨by kernel_rfl, by kernel_rfl, rfl⟩,
  ⟨by kernel_rfl, by kernel_rfl, rfl⟩,
  ⟨by kernel_rfl, by kernel_rfl, rfl⟩,
  ⟨by kernel_rfl, by kernel_rfl, rfl⟩,
  ⟨by kernel_rfl, by kernel_rfl, rfl⟩,
  ⟨by kernel_rfl, by kernel_rfl, rfl⟩,
  ⟨by kernel_rfl, by kernel_rfl, rfl⟩,
  ⟨by kernel_rfl, by kernel_rfl, rfl⟩,
  ⟨by kernel_rfl, by kernel_rfl, rfl⟩,
  ⟨by kernel_rfl, by kernel_rfl, rfl⟩,
  ⟨by kernel_rfl, by kernel_rfl, rfl⟩,
  ⟨by kernel_rfl, by kernel_rfl, rfl⟩,
  ⟨by kernel_rfl, by kernel_rfl, rfl⟩,
  ⟨by kernel_rfl, by kernel_rfl, rfl⟩,
  ⟨by kernel_rfl, by kernel_rfl, rfl⟩,
  ⟨by kernel_rfl, by kernel_rfl, rfl⟩,
  ⟨by kernel_rfl, by kernel_rfl, rfl⟩,
  ⟨by kernel_rfl, by kernel_rfl, rfl⟩,
  ⟨by kernel_rfl, by kernel_rfl, rfl⟩,
  ⟨by kernel_rfl, by kernel_rfl, rfl⟩,
  ⟨by kernel_rfl, by kernel_rfl, rfl⟩,
  ⟨by kernel_rfl, by kernel_rfl, rfl⟩,
  ⟨by kernel_rfl, by kernel_rfl, rfl⟩,
  ⟨by kernel_rfl, by kernel_rfl, rfl⟩,
  ⟨by kernel_rfl, by kernel_rfl, rfl⟩,
  ⟨by kernel_rfl, by kernel_rfl, rfl⟩,
  ⟨by kernel_rfl, by kernel_rfl, rfl⟩,
  ⟨by kernel_rfl, by kernel_rfl, rfl⟩,
  ⟨by kernel_rfl, by kernel_rfl, rfl⟩,
  ⟨by kernel_rfl, by kernel_rfl, rfl⟩,
  ⟨by kernel_rfl, by kernel_rfl, rfl⟩,
  ⟨by kernel_rfl, by kernel_rfl, rfl⟩,
  ⟨by kernel_rfl, by kernel_rfl, rfl⟩,
  ⟨by kernel_rfl, by kernel_rfl, rfl⟩,
  ⟨by kernel_rfl, by kernel_rfl, rfl⟩,
  ⟨by kernel_rfl, by kernel_rfl, rfl⟩,
  ⟨by kernel_rfl, by kernel_rfl, rfl⟩,
  ⟨by kernel_rfl, by kernel_rfl, rfl⟩,
  ⟨by kernel_rfl, by kernel_rfl, rfl⟩,
  ⟨by kernel_rfl, by kernel_rfl, rfl⟩,
  ⟨by kernel_rfl, by kernel_rfl, rfl⟩,
  ⟨by kernel_rfl, by kernel_rfl, rfl⟩,
  ⟨by kernel_rfl, by kernel_rfl, rfl⟩,
  ⟨by kernel_rfl, by kernel_rfl, rfl⟩,
  ⟨by kernel_rfl, by kernel_rfl, rfl⟩,
  ⟨by kernel_rfl, by kernel_rfl, rfl⟩,
  ⟨by kernel_rfl, by kernel_rfl, rfl⟩,
  ⟨by kernel_rfl, by kernel_rfl, rfl⟩,
  ⟨by kernel_rfl, by kernel_rfl, rfl⟩,
  ⟨by kernel_rfl, by kernel_rfl, rfl⟩,
  ⟨by kernel_rfl, by kernel_rfl, rfl⟩,
  ⟨by kernel_rfl, by kernel_rfl, rfl⟩,
  ⟨by kernel_rfl, by kernel_rfl, rfl⟩,
  ⟨by kernel_rfl, by kernel_rfl, rfl⟩,
  ⟨by kernel_rfl, by kernel_rfl, rfl⟩,
  ⟨by kernel_rfl, by kernel_rfl, rfl⟩,
  ⟨by kernel_rfl, by kernel_rfl, rfl⟩,
  ⟨by kernel_rfl, by kernel_rfl, rfl⟩,
  ⟨by kernel_rfl, by kernel_rfl, rfl⟩,
  ⟨by kernel_rfl, by kernel_rfl, rfl⟩,
  ⟨by kernel_rfl, by kernel_rfl, rfl⟩,
  ⟨by kernel_rfl, by kernel_rfl, rfl⟩,
  ⟨by kernel_rfl, by kernel_rfl, rfl⟩,
  ⟨by kernel_rfl, by kernel_rfl, rfl⟩,
  ⟨by kernel_rfl, by kernel_rfl, rfl⟩,
  ⟨by kernel_rfl, by kernel_rfl, rfl⟩,
  ⟨by kernel_rfl, by kernel_rfl, rfl⟩,
  ⟨by kernel_rfl, by kernel_rfl, rfl⟩,
  ⟨by kernel_rfl, by kernel_rfl, rfl⟩,
  ⟨by kernel_rfl, by kernel_rfl, rfl⟩,
  ⟨by kernel_rfl, by kernel_rfl, rfl⟩,
  ⟨by kernel_rfl, by kernel_rfl, rfl⟩,
  ⟨by kernel_rfl, by kernel_rfl, rfl⟩,
  ⟨by kernel_rfl, by kernel_rfl, rfl⟩,
  ⟨by kernel_rfl, by kernel_rfl, rfl⟩,
  ⟨by kernel_rfl, by kernel_rfl, rfl⟩,
  ⟨by kernel_rfl, by kernel_rfl, rfl⟩,
  ⟨by kernel_rfl, by kernel_rfl, rfl⟩,
  ⟨by kernel_rfl, by kernel_rfl, rfl⟩,
  ⟨by kernel_rfl, by kernel_rfl, rfl⟩,
  ⟨by kernel_rfl, by kernel_rfl, rfl⟩,
  ⟨by kernel_rfl, by kernel_rfl, rfl⟩,
  ⟨by kernel_rfl, by kernel_rfl, rfl⟩,
  ⟨by kernel_rfl, by kernel_rfl, rfl⟩,
  ⟨by kernel_rfl, by kernel_rfl, rfl⟩,
  ⟨by kernel_rfl, by kernel_rfl, rfl⟩,
  ⟨by kernel_rfl, by kernel_rfl, rfl⟩,
  ⟨by kernel_rfl, by kernel_rfl, rfl⟩,
  ⟨by kernel_rfl, by kernel_rfl, rfl⟩,
  ⟨by kernel_rfl, by kernel_rfl, rfl⟩,
  ⟨by kernel_rfl, by kernel_rfl, rfl⟩,
  ⟨by kernel_rfl, by kernel_rfl, rfl⟩,
  ⟨by kernel_rfl, by kernel_rfl, rfl⟩,
  ⟨by kernel_rfl, by kernel_rfl, rfl⟩,
  ⟨by kernel_rfl, by kernel_rfl, rfl⟩,
  ⟨by kernel_rfl, by kernel_rfl, rfl⟩,
  ⟨by kernel_rfl, by kernel_rfl, rfl⟩,
  ⟨by kernel_rfl, by kernel_rfl, rfl⟩,
  ⟨by kernel_rfl, by kernel_rfl, rfl⟩,
  ⟨by kernel_rfl, by kernel_rfl, rfl⟩,
  ⟨by kernel_rfl, by kernel_rfl, rfl⟩,
  ⟨by kernel_rfl, by kernel_rfl, rfl⟩,
  ⟨by kernel_rfl, by kernel_rfl, rfl⟩,
  ⟨by kernel_rfl, by kernel_rfl, rfl⟩,
  ⟨by kernel_rfl, by kernel_rfl, rfl⟩,
  ⟨by kernel_rfl, by kernel_rfl, rfl⟩,
  ⟨by kernel_rfl, by kernel_rfl, rfl⟩,
  ⟨by kernel_rfl, by kernel_rfl, rfl⟩,
  ⟨by kernel_rfl, by kernel_rfl, rfl⟩,
  ⟨by kernel_rfl, by kernel_rfl, rfl⟩,
  ⟨by kernel_rfl, by kernel_rfl, rfl⟩,
  ⟨by kernel_rfl, by kernel_rfl, rfl⟩,
  ⟨by kernel_rfl, by kernel_rfl, rfl⟩,
  ⟨by kernel_rfl, by kernel_rfl, rfl⟩,
  ⟨by kernel_rfl, by kernel_rfl, rfl⟩,
  ⟨by kernel_rfl, by kernel_rfl, rfl⟩,
  ⟨by kernel_rfl, by kernel_rfl, rfl⟩,
  trivial⟩
def Tryd.fns : List Nat := [2, 3, 4, 5, 6, 7, 8, 9, 10, 11, 12, 13, 14, 15, 16, 17, 18, 19, 20, 21, 22, 23, 24, 25, 26, 27, 28, 29, 30, 31, 32, 33, 34, 35, 36, 37, 38, 39, 40, 41, 42, 43, 44, 45, 46, 47, 48, 49, 50, 51, 52, 53, 54, 55, 56, 57, 58, 59, 60, 61, 62, 63, 64, 65, 66, 67, 68, 69, 70, 71, 72, 73, 74, 75, 76, 77, 78, 79, 81, 82, 83, 84, 85, 86, 87, 88, 89, 90, 92, 93, 94, 95, 97, 126]
theorem Tryd.fns_enter : (Tryd.fns.all (entersB Tryd.prog)) = true := by kernel_rfl
noncomputable def Tryd.cxm (N : Nat) (SR SB SC M : List Nat) (w : World) : Cx := ⟨Tryd.prog, Tryd.tab, Tryd.fns, N, SR, SB, SC, w.heap.size, M, w, none⟩
noncomputable abbrev Tryd.cx (N : Nat) (SR SB SC : List Nat) (w : World) : Cx := Tryd.cxm N SR SB SC [] w
theorem Tryd.ok (N : Nat) (SR SB SC M : List Nat) (w : World) : COk (Tryd.cxm N SR SB SC M w) :=
  ⟨Tryd.tok, fun _ h => enters_of (memN_all Tryd.fns_enter h), by kernel_rfl⟩
theorem Tryd.eqIn25 (d : Nat) (a0 b0 : ByteArray) (a1 b1 : Int) (a2 b2 : Int) (w : World) : (Op.equalIn (d + 1 + 1) 25 (.agg #[.string a0, .int .i64 a1, .int .i64 a2]) (.agg #[.string b0, .int .i64 b1, .int .i64 b2])).run Tryd.prog w = .ok (a0 == b0 && (a1 == b1 && (a2 == b2 && true))) w :=
  equalIn_st [(true, 9, 0), (true, 3, 1), (true, 3, 2)] (by kernel_rfl) (by kernel_rfl) (by kernel_rfl)
    (eqs_cons (.string a0) (.string b0) (by kernel_rfl) (by kernel_rfl) (eqs_string w (d) 9 _ _ (by kernel_rfl)) (eqs_cons (.int .i64 a1) (.int .i64 b1) (by kernel_rfl) (by kernel_rfl) (run_equalIn_int w (d) 3 .i64 .i64 _ _ (by kernel_rfl)) (eqs_cons (.int .i64 a2) (.int .i64 b2) (by kernel_rfl) (by kernel_rfl) (run_equalIn_int w (d) 3 .i64 .i64 _ _ (by kernel_rfl)) eqs_nil)))
theorem Tryd.eq25 (a0 b0 : ByteArray) (a1 b1 : Int) (a2 b2 : Int) (w : World) : (Op.equal 25 (SV.a [.v (.string a0), .v (.int .i64 a1), .v (.int .i64 a2)]).real (SV.a [.v (.string b0), .v (.int .i64 b1), .v (.int .i64 b2)]).real).run Tryd.prog w = .ok (a0 == b0 && (a1 == b1 && (a2 == b2 && true))) w :=
  Tryd.eqIn25 9998 a0 b0 a1 b1 a2 b2 w
theorem Tryd.eqg25 : Tryd.prog.eqGuardType Tryd.prog.depth 25 = false := by kernel_rfl
theorem Tryd.eqIn26 (d : Nat) (a0 b0 : ByteArray) (a1 b1 : Int) (a2 b2 : Int) (w : World) : (Op.equalIn (d + 1 + 1) 26 (.agg #[.string a0, .int .i64 a1, .int .i64 a2]) (.agg #[.string b0, .int .i64 b1, .int .i64 b2])).run Tryd.prog w = .ok (a0 == b0 && (a1 == b1 && (a2 == b2 && true))) w :=
  equalIn_st [(true, 9, 0), (true, 3, 1), (true, 3, 2)] (by kernel_rfl) (by kernel_rfl) (by kernel_rfl)
    (eqs_cons (.string a0) (.string b0) (by kernel_rfl) (by kernel_rfl) (eqs_string w (d) 9 _ _ (by kernel_rfl)) (eqs_cons (.int .i64 a1) (.int .i64 b1) (by kernel_rfl) (by kernel_rfl) (run_equalIn_int w (d) 3 .i64 .i64 _ _ (by kernel_rfl)) (eqs_cons (.int .i64 a2) (.int .i64 b2) (by kernel_rfl) (by kernel_rfl) (run_equalIn_int w (d) 3 .i64 .i64 _ _ (by kernel_rfl)) eqs_nil)))
theorem Tryd.eq26 (a0 b0 : ByteArray) (a1 b1 : Int) (a2 b2 : Int) (w : World) : (Op.equal 26 (SV.a [.v (.string a0), .v (.int .i64 a1), .v (.int .i64 a2)]).real (SV.a [.v (.string b0), .v (.int .i64 b1), .v (.int .i64 b2)]).real).run Tryd.prog w = .ok (a0 == b0 && (a1 == b1 && (a2 == b2 && true))) w :=
  Tryd.eqIn26 9998 a0 b0 a1 b1 a2 b2 w
theorem Tryd.eqg26 : Tryd.prog.eqGuardType Tryd.prog.depth 26 = false := by kernel_rfl
theorem Tryd.eqIn41 (d : Nat) (a0 b0 : ByteArray) (a1 b1 : ByteArray) (a2 b2 : Int) (w : World) : (Op.equalIn (d + 1 + 1) 41 (.agg #[.string a0, .string a1, .int .i64 a2]) (.agg #[.string b0, .string b1, .int .i64 b2])).run Tryd.prog w = .ok (a0 == b0 && (a1 == b1 && (a2 == b2 && true))) w :=
  equalIn_st [(true, 9, 0), (true, 9, 1), (true, 3, 2)] (by kernel_rfl) (by kernel_rfl) (by kernel_rfl)
    (eqs_cons (.string a0) (.string b0) (by kernel_rfl) (by kernel_rfl) (eqs_string w (d) 9 _ _ (by kernel_rfl)) (eqs_cons (.string a1) (.string b1) (by kernel_rfl) (by kernel_rfl) (eqs_string w (d) 9 _ _ (by kernel_rfl)) (eqs_cons (.int .i64 a2) (.int .i64 b2) (by kernel_rfl) (by kernel_rfl) (run_equalIn_int w (d) 3 .i64 .i64 _ _ (by kernel_rfl)) eqs_nil)))
theorem Tryd.eq41 (a0 b0 : ByteArray) (a1 b1 : ByteArray) (a2 b2 : Int) (w : World) : (Op.equal 41 (SV.a [.v (.string a0), .v (.string a1), .v (.int .i64 a2)]).real (SV.a [.v (.string b0), .v (.string b1), .v (.int .i64 b2)]).real).run Tryd.prog w = .ok (a0 == b0 && (a1 == b1 && (a2 == b2 && true))) w :=
  Tryd.eqIn41 9998 a0 b0 a1 b1 a2 b2 w
theorem Tryd.eqg41 : Tryd.prog.eqGuardType Tryd.prog.depth 41 = false := by kernel_rfl
theorem Tryd.eqIn42 (d : Nat) (a0 b0 : ByteArray) (a1 b1 : ByteArray) (a2 b2 : Int) (w : World) : (Op.equalIn (d + 1 + 1) 42 (.agg #[.string a0, .string a1, .int .i64 a2]) (.agg #[.string b0, .string b1, .int .i64 b2])).run Tryd.prog w = .ok (a0 == b0 && (a1 == b1 && (a2 == b2 && true))) w :=
  equalIn_st [(true, 9, 0), (true, 9, 1), (true, 3, 2)] (by kernel_rfl) (by kernel_rfl) (by kernel_rfl)
    (eqs_cons (.string a0) (.string b0) (by kernel_rfl) (by kernel_rfl) (eqs_string w (d) 9 _ _ (by kernel_rfl)) (eqs_cons (.string a1) (.string b1) (by kernel_rfl) (by kernel_rfl) (eqs_string w (d) 9 _ _ (by kernel_rfl)) (eqs_cons (.int .i64 a2) (.int .i64 b2) (by kernel_rfl) (by kernel_rfl) (run_equalIn_int w (d) 3 .i64 .i64 _ _ (by kernel_rfl)) eqs_nil)))
theorem Tryd.eq42 (a0 b0 : ByteArray) (a1 b1 : ByteArray) (a2 b2 : Int) (w : World) : (Op.equal 42 (SV.a [.v (.string a0), .v (.string a1), .v (.int .i64 a2)]).real (SV.a [.v (.string b0), .v (.string b1), .v (.int .i64 b2)]).real).run Tryd.prog w = .ok (a0 == b0 && (a1 == b1 && (a2 == b2 && true))) w :=
  Tryd.eqIn42 9998 a0 b0 a1 b1 a2 b2 w
theorem Tryd.eqg42 : Tryd.prog.eqGuardType Tryd.prog.depth 42 = false := by kernel_rfl
theorem Tryd.eqIn65 (d : Nat) (a0 b0 : Int) (a1 b1 : Int) (a2 b2 : Int) (w : World) : (Op.equalIn (d + 1 + 1) 65 (.agg #[.int .u8 a0, .int .u8 a1, .int .u8 a2]) (.agg #[.int .u8 b0, .int .u8 b1, .int .u8 b2])).run Tryd.prog w = .ok (a0 == b0 && (a1 == b1 && (a2 == b2 && true))) w :=
  equalIn_st [(true, 5, 0), (true, 5, 1), (true, 5, 2)] (by kernel_rfl) (by kernel_rfl) (by kernel_rfl)
    (eqs_cons (.int .u8 a0) (.int .u8 b0) (by kernel_rfl) (by kernel_rfl) (run_equalIn_int w (d) 5 .u8 .u8 _ _ (by kernel_rfl)) (eqs_cons (.int .u8 a1) (.int .u8 b1) (by kernel_rfl) (by kernel_rfl) (run_equalIn_int w (d) 5 .u8 .u8 _ _ (by kernel_rfl)) (eqs_cons (.int .u8 a2) (.int .u8 b2) (by kernel_rfl) (by kernel_rfl) (run_equalIn_int w (d) 5 .u8 .u8 _ _ (by kernel_rfl)) eqs_nil)))
theorem Tryd.eq65 (a0 b0 : Int) (a1 b1 : Int) (a2 b2 : Int) (w : World) : (Op.equal 65 (SV.a [.v (.int .u8 a0), .v (.int .u8 a1), .v (.int .u8 a2)]).real (SV.a [.v (.int .u8 b0), .v (.int .u8 b1), .v (.int .u8 b2)]).real).run Tryd.prog w = .ok (a0 == b0 && (a1 == b1 && (a2 == b2 && true))) w :=
  Tryd.eqIn65 9998 a0 b0 a1 b1 a2 b2 w
theorem Tryd.eqg65 : Tryd.prog.eqGuardType Tryd.prog.depth 65 = false := by kernel_rfl
theorem Tryd.eqIn66 (d : Nat) (a0 b0 : Int) (a1 b1 : Int) (a2 b2 : Int) (w : World) : (Op.equalIn (d + 1 + 1) 66 (.agg #[.int .u8 a0, .int .u8 a1, .int .u8 a2]) (.agg #[.int .u8 b0, .int .u8 b1, .int .u8 b2])).run Tryd.prog w = .ok (a0 == b0 && (a1 == b1 && (a2 == b2 && true))) w :=
  equalIn_st [(true, 5, 0), (true, 5, 1), (true, 5, 2)] (by kernel_rfl) (by kernel_rfl) (by kernel_rfl)
    (eqs_cons (.int .u8 a0) (.int .u8 b0) (by kernel_rfl) (by kernel_rfl) (run_equalIn_int w (d) 5 .u8 .u8 _ _ (by kernel_rfl)) (eqs_cons (.int .u8 a1) (.int .u8 b1) (by kernel_rfl) (by kernel_rfl) (run_equalIn_int w (d) 5 .u8 .u8 _ _ (by kernel_rfl)) (eqs_cons (.int .u8 a2) (.int .u8 b2) (by kernel_rfl) (by kernel_rfl) (run_equalIn_int w (d) 5 .u8 .u8 _ _ (by kernel_rfl)) eqs_nil)))
theorem Tryd.eq66 (a0 b0 : Int) (a1 b1 : Int) (a2 b2 : Int) (w : World) : (Op.equal 66 (SV.a [.v (.int .u8 a0), .v (.int .u8 a1), .v (.int .u8 a2)]).real (SV.a [.v (.int .u8 b0), .v (.int .u8 b1), .v (.int .u8 b2)]).real).run Tryd.prog w = .ok (a0 == b0 && (a1 == b1 && (a2 == b2 && true))) w :=
  Tryd.eqIn66 9998 a0 b0 a1 b1 a2 b2 w
theorem Tryd.eqg66 : Tryd.prog.eqGuardType Tryd.prog.depth 66 = false := by kernel_rfl
theorem Tryd.eqIn90 (d : Nat) (a0 b0 : ByteArray) (a1 b1 : ByteArray) (a2 b2 : Int) (w : World) : (Op.equalIn (d + 1 + 1) 90 (.agg #[.string a0, .string a1, .int .i64 a2]) (.agg #[.string b0, .string b1, .int .i64 b2])).run Tryd.prog w = .ok (a0 == b0 && (a1 == b1 && (a2 == b2 && true))) w :=
  equalIn_st [(true, 9, 0), (true, 9, 1), (true, 3, 2)] (by kernel_rfl) (by kernel_rfl) (by kernel_rfl)
    (eqs_cons (.string a0) (.string b0) (by kernel_rfl) (by kernel_rfl) (eqs_string w (d) 9 _ _ (by kernel_rfl)) (eqs_cons (.string a1) (.string b1) (by kernel_rfl) (by kernel_rfl) (eqs_string w (d) 9 _ _ (by kernel_rfl)) (eqs_cons (.int .i64 a2) (.int .i64 b2) (by kernel_rfl) (by kernel_rfl) (run_equalIn_int w (d) 3 .i64 .i64 _ _ (by kernel_rfl)) eqs_nil)))
theorem Tryd.eq90 (a0 b0 : ByteArray) (a1 b1 : ByteArray) (a2 b2 : Int) (w : World) : (Op.equal 90 (SV.a [.v (.string a0), .v (.string a1), .v (.int .i64 a2)]).real (SV.a [.v (.string b0), .v (.string b1), .v (.int .i64 b2)]).real).run Tryd.prog w = .ok (a0 == b0 && (a1 == b1 && (a2 == b2 && true))) w :=
  Tryd.eqIn90 9998 a0 b0 a1 b1 a2 b2 w
theorem Tryd.eqg90 : Tryd.prog.eqGuardType Tryd.prog.depth 90 = false := by kernel_rfl
theorem Tryd.eqIn136 (d : Nat) (a0 b0 : ByteArray) (w : World) : (Op.equalIn (d + 1 + 1) 136 (.agg #[.string a0]) (.agg #[.string b0])).run Tryd.prog w = .ok (a0 == b0 && true) w :=
  equalIn_st [(true, 9, 0)] (by kernel_rfl) (by kernel_rfl) (by kernel_rfl)
    (eqs_cons (.string a0) (.string b0) (by kernel_rfl) (by kernel_rfl) (eqs_string w (d) 9 _ _ (by kernel_rfl)) eqs_nil)
theorem Tryd.eq136 (a0 b0 : ByteArray) (w : World) : (Op.equal 136 (SV.a [.v (.string a0)]).real (SV.a [.v (.string b0)]).real).run Tryd.prog w = .ok (a0 == b0 && true) w :=
  Tryd.eqIn136 9998 a0 b0 w
theorem Tryd.eqg136 : Tryd.prog.eqGuardType Tryd.prog.depth 136 = false := by kernel_rfl
theorem Tryd.eqIn137 (d : Nat) (a0 b0 : ByteArray) (w : World) : (Op.equalIn (d + 1 + 1) 137 (.agg #[.string a0]) (.agg #[.string b0])).run Tryd.prog w = .ok (a0 == b0 && true) w :=
  equalIn_st [(true, 9, 0)] (by kernel_rfl) (by kernel_rfl) (by kernel_rfl)
    (eqs_cons (.string a0) (.string b0) (by kernel_rfl) (by kernel_rfl) (eqs_string w (d) 9 _ _ (by kernel_rfl)) eqs_nil)
theorem Tryd.eq137 (a0 b0 : ByteArray) (w : World) : (Op.equal 137 (SV.a [.v (.string a0)]).real (SV.a [.v (.string b0)]).real).run Tryd.prog w = .ok (a0 == b0 && true) w :=
  Tryd.eqIn137 9998 a0 b0 w
theorem Tryd.eqg137 : Tryd.prog.eqGuardType Tryd.prog.depth 137 = false := by kernel_rfl
theorem Tryd.eqIn140 (d : Nat) (a0 b0 : Int) (a1 b1 : Int) (w : World) : (Op.equalIn (d + 1 + 1) 140 (.agg #[.int .u8 a0, .int .u8 a1]) (.agg #[.int .u8 b0, .int .u8 b1])).run Tryd.prog w = .ok (a0 == b0 && (a1 == b1 && true)) w :=
  equalIn_st [(true, 5, 0), (true, 5, 1)] (by kernel_rfl) (by kernel_rfl) (by kernel_rfl)
    (eqs_cons (.int .u8 a0) (.int .u8 b0) (by kernel_rfl) (by kernel_rfl) (run_equalIn_int w (d) 5 .u8 .u8 _ _ (by kernel_rfl)) (eqs_cons (.int .u8 a1) (.int .u8 b1) (by kernel_rfl) (by kernel_rfl) (run_equalIn_int w (d) 5 .u8 .u8 _ _ (by kernel_rfl)) eqs_nil))
theorem Tryd.eq140 (a0 b0 : Int) (a1 b1 : Int) (w : World) : (Op.equal 140 (SV.a [.v (.int .u8 a0), .v (.int .u8 a1)]).real (SV.a [.v (.int .u8 b0), .v (.int .u8 b1)]).real).run Tryd.prog w = .ok (a0 == b0 && (a1 == b1 && true)) w :=
  Tryd.eqIn140 9998 a0 b0 a1 b1 w
theorem Tryd.eqg140 : Tryd.prog.eqGuardType Tryd.prog.depth 140 = false := by kernel_rfl
theorem Tryd.eqIn141 (d : Nat) (a0 b0 : Int) (a1 b1 : Int) (w : World) : (Op.equalIn (d + 1 + 1) 141 (.agg #[.int .u8 a0, .int .u8 a1]) (.agg #[.int .u8 b0, .int .u8 b1])).run Tryd.prog w = .ok (a0 == b0 && (a1 == b1 && true)) w :=
  equalIn_st [(true, 5, 0), (true, 5, 1)] (by kernel_rfl) (by kernel_rfl) (by kernel_rfl)
    (eqs_cons (.int .u8 a0) (.int .u8 b0) (by kernel_rfl) (by kernel_rfl) (run_equalIn_int w (d) 5 .u8 .u8 _ _ (by kernel_rfl)) (eqs_cons (.int .u8 a1) (.int .u8 b1) (by kernel_rfl) (by kernel_rfl) (run_equalIn_int w (d) 5 .u8 .u8 _ _ (by kernel_rfl)) eqs_nil))
theorem Tryd.eq141 (a0 b0 : Int) (a1 b1 : Int) (w : World) : (Op.equal 141 (SV.a [.v (.int .u8 a0), .v (.int .u8 a1)]).real (SV.a [.v (.int .u8 b0), .v (.int .u8 b1)]).real).run Tryd.prog w = .ok (a0 == b0 && (a1 == b1 && true)) w :=
  Tryd.eqIn141 9998 a0 b0 a1 b1 w
theorem Tryd.eqg141 : Tryd.prog.eqGuardType Tryd.prog.depth 141 = false := by kernel_rfl
end Go.Proofs.YtbpklalkoocneaaDoor
