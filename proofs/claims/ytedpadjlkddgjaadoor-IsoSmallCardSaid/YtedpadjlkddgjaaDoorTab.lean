import Derived.Test.YtedpadjlkddgjaaDoorSatB
import Derived.Test.YtedpadjlkddgjaaDoorProg
namespace Go.Proofs.YtedpadjlkddgjaaDoor
open Go Go.RowKit Sat
set_option maxRecDepth 100000
noncomputable def Tryd.tab : TT := [
  (1, ⟨.other, 1, 8, .nilFunc⟩),
  (2, ⟨.int .i64, 1, 8, .int .i64 0⟩),
  (3, ⟨.int .i64, 1, 8, .int .i64 0⟩),
  (4, ⟨.bool, 1, 1, .bool false⟩),
  (5, ⟨.int .u8, 1, 1, .int .u8 0⟩),
  (9, ⟨.str, 1, 16, .string ⟨#[]⟩⟩),
  (12, ⟨.int .u64, 1, 8, .int .u64 0⟩),
  (13, ⟨.st [(9, 0), (12, 1)], 2, 24, .agg #[.string ⟨#[]⟩, .int .u64 0]⟩),
  (19, ⟨.st [(17, 0)], 1, 8, .agg #[.pointer none]⟩),
  (21, ⟨.int .i32, 1, 4, .int .i32 0⟩),
  (22, ⟨.other, 1, 8, .nilFunc⟩),
  (23, ⟨.other, 1, 8, .nilFunc⟩),
  (24, ⟨.int .u64, 1, 8, .int .u64 0⟩),
  (26, ⟨.other, 1, 8, .nilFunc⟩),
  (27, ⟨.slice 5, 1, 24, .slice none 0 0⟩),
  (28, ⟨.other, 1, 8, .nilFunc⟩),
  (29, ⟨.slice 34, 1, 24, .slice none 0 0⟩),
  (30, ⟨.int .i64, 1, 8, .int .i64 0⟩),
  (32, ⟨.other, 1, 8, .nilFunc⟩),
  (33, ⟨.st [(3, 0), (5, 1)], 2, 16, .agg #[.int .i64 0, .int .u8 0]⟩),
  (34, ⟨.st [(3, 0), (5, 1)], 2, 16, .agg #[.int .i64 0, .int .u8 0]⟩),
  (35, ⟨.other, 1, 8, .nilFunc⟩),
  (36, ⟨.other, 1, 8, .nilFunc⟩),
  (37, ⟨.slice 3, 1, 24, .slice none 0 0⟩),
  (39, ⟨.other, 1, 8, .nilFunc⟩),
  (40, ⟨.other, 1, 8, .nilFunc⟩),
  (42, ⟨.other, 1, 8, .nilFunc⟩),
  (43, ⟨.other, 1, 8, .nilFunc⟩),
  (44, ⟨.other, 1, 8, .nilFunc⟩),
  (45, ⟨.st [(5, 0), (4, 1), (4, 2)], 3, 3, .agg #[.int .u8 0, .bool false, .bool false]⟩),
  (46, ⟨.st [(5, 0), (4, 1), (4, 2)], 3, 3, .agg #[.int .u8 0, .bool false, .bool false]⟩),
  (47, ⟨.other, 1, 8, .nilFunc⟩),
  (48, ⟨.other, 1, 8, .nilFunc⟩),
  (50, ⟨.other, 1, 8, .nilFunc⟩),
  (51, ⟨.other, 1, 8, .nilFunc⟩),
  (53, ⟨.other, 1, 8, .nilFunc⟩),
  (54, ⟨.slice 9, 1, 24, .slice none 0 0⟩),
  (55, ⟨.other, 1, 8, .nilFunc⟩),
  (57, ⟨.other, 1, 8, .nilFunc⟩),
  (59, ⟨.other, 1, 8, .nilFunc⟩),
  (60, ⟨.st [(5, 0), (4, 1), (4, 2)], 3, 3, .agg #[.int .u8 0, .bool false, .bool false]⟩),
  (62, ⟨.other, 1, 8, .nilFunc⟩),
  (63, ⟨.slice 66, 1, 24, .slice none 0 0⟩),
  (65, ⟨.other, 1, 8, .nilFunc⟩),
  (66, ⟨.st [(3, 0), (5, 1)], 2, 16, .agg #[.int .i64 0, .int .u8 0]⟩),
  (67, ⟨.other, 1, 8, .nilFunc⟩),
  (68, ⟨.other, 1, 8, .nilFunc⟩),
  (69, ⟨.other, 1, 8, .nilFunc⟩),
  (70, ⟨.arr 11 69, 11, 88, .agg #[.nilFunc, .nilFunc, .nilFunc, .nilFunc, .nilFunc, .nilFunc, .nilFunc, .nilFunc, .nilFunc, .nilFunc, .nilFunc]⟩),
  (71, ⟨.other, 1, 8, .nilFunc⟩),
  (72, ⟨.other, 1, 8, .nilFunc⟩),
  (73, ⟨.other, 1, 8, .nilFunc⟩),
  (74, ⟨.other, 1, 8, .nilFunc⟩),
  (75, ⟨.slice 76, 1, 24, .slice none 0 0⟩),
  (76, ⟨.st [(9, 0), (46, 1)], 4, 24, .agg #[.string ⟨#[]⟩, .int .u8 0, .bool false, .bool false]⟩),
  (77, ⟨.int .u64, 1, 8, .int .u64 0⟩),
  (79, ⟨.other, 1, 8, .nilFunc⟩),
  (80, ⟨.other, 1, 8, .nilFunc⟩),
  (83, ⟨.st [(81, 0), (27, 1)], 2, 32, .agg #[.pointer none, .slice none 0 0]⟩),
  (84, ⟨.other, 1, 8, .nilFunc⟩),
  (86, ⟨.other, 1, 16, .nilIface⟩),
  (88, ⟨.other, 1, 8, .nilFunc⟩),
  (89, ⟨.other, 1, 8, .nilFunc⟩),
  (90, ⟨.other, 1, 8, .nilFunc⟩),
  (91, ⟨.other, 1, 8, .nilFunc⟩),
  (92, ⟨.int .u32, 1, 4, .int .u32 0⟩),
  (94, ⟨.other, 1, 8, .nilFunc⟩),
  (96, ⟨.other, 1, 8, .nilFunc⟩),
  (97, ⟨.ptr 5, 1, 8, .pointer none⟩),
  (99, ⟨.other, 1, 8, .nilFunc⟩),
  (100, ⟨.other, 1, 8, .nilFunc⟩),
  (108, ⟨.other, 1, 8, .nilFunc⟩)]
theorem Tryd.tok : TOk Tryd.prog Tryd.tab := ⟨
  ⟨by kernel_rfl, by kernel_rfl, rfl⟩,
  ⟨by kernel_rfl, by kernel_rfl, rfl⟩,
  ⟨by kernel_rfl, by kernel_rfl, rfl⟩,
  ⟨by kernel_rfl, by kernel_rfl, rfl⟩,
  ⟨by kernel_rfl, by kernel_rfl, rfl⟩,
  ⟨by kernel_rfl, by kernel_rfl, rfl⟩,
  ⟨by kernel_rfl, by kernel_rfl, rfl⟩,
  ⟨by kernel_rfl, by kernel_rfl, rfl⟩,
  ⟨by kernel_rfl, by kernel_rfl, rfl⟩,
  ⟨by kernel_rfl, by kernel_rfl, rfl⟩,
  ⟨by kernel_rfl, by kernel_rfl, rfl⟩,
  ⟨by kernel_rfl, by kernel_rfl, rfl⟩,
  ⟨by kernel_rfl, by kernel_rfl, rfl⟩,
  ⟨by kernel_rfl, by kernel_rfl, rfl⟩,
  ⟨by kernel_rfl, by kernel_rfl, rfl⟩,
  ⟨by kernel_rfl, by kernel_rfl, rfl⟩,
  ⟨by kernel_rfl, by kernel_rfl, rfl⟩,
  ⟨by kernel_rfl, by kernel_rfl, rfl⟩,
  ⟨by kernel_rfl, by kernel_rfl, rfl⟩,
  ⟨by kernel_rfl, by kernel_rfl, rfl⟩,
  ⟨by kernel_rfl, by kernel_rfl, rfl⟩,
  ⟨by kernel_rfl, by kernel_rfl, rfl⟩,
  ⟨by kernel_rfl, by kernel_rfl, rfl⟩,
  ⟨by kernel_rfl, by kernel_rfl, rfl⟩,
  ⟨by kernel_rfl, by kernel_rfl, rfl⟩,
  ⟨by kernel_rfl, by kernel_rfl, rfl⟩,
  ⟨by kernel_rfl, by kernel_rfl, rfl⟩,
  ⟨by kernel_rfl, by kernel_rfl, rfl⟩,
  ⟨by kernel_rfl, by kernel_rfl, rfl⟩,
  ⟨by kernel_rfl, by kernel_rfl, rfl⟩,
  ⟨by kernel_rfl, by kernel_rfl, rfl⟩,
  ⟨by kernel_rfl, by kernel_rfl, rfl⟩,
  ⟨by kernel_rfl, by kernel_rfl, rfl⟩,
  ⟨by kernel_rfl, by kernel_rfl, rfl⟩,
  ⟨by kernel_rfl, by kernel_rfl, rfl⟩,
  ⟨by kernel_rfl, by kernel_rfl, rfl⟩,
  ⟨by kernel_rfl, by kernel_rfl, rfl⟩,
  ⟨by kernel_rfl, by kernel_rfl, rfl⟩,
  ⟨by kernel_rfl, by kernel_rfl, rfl⟩,
  ⟨by kernel_rfl, by kernel_rfl, rfl⟩,
  ⟨by kernel_rfl, by kernel_rfl, rfl⟩,
  ⟨by kernel_rfl, by kernel_rfl, rfl⟩,
  ⟨by kernel_rfl, by kernel_rfl, rfl⟩,
  ⟨by kernel_rfl, by kernel_rfl, rfl⟩,
  ⟨by kernel_rfl, by kernel_rfl, rfl⟩,
  ⟨by kernel_rfl, by kernel_rfl, rfl⟩,
  ⟨by kernel_rfl, by kernel_rfl, rfl⟩,
  ⟨by kernel_rfl, by kernel_rfl, rfl⟩,
  ⟨by kernel_rfl, by kernel_rfl, rfl⟩,
  ⟨by kernel_rfl, by kernel_rfl, rfl⟩,
  ⟨by kernel_rfl, by kernel_rfl, rfl⟩,
  ⟨by kernel_rfl, by kernel_rfl, rfl⟩,
  ⟨by kernel_rfl, by kernel_rfl, rfl⟩,
  ⟨by kernel_rfl, by kernel_rfl, rfl⟩,
  ⟨by kernel_rfl, by kernel_rfl, rfl⟩,
  ⟨by kernel_rfl, by kernel_rfl, rfl⟩,
  ⟨by kernel_rfl, by kernel_rfl, rfl⟩,
  ⟨by kernel_rfl, by kernel_rfl, rfl⟩,
  ⟨by kernel_rfl, by kernel_rfl, rfl⟩,
  ⟨by kernel_rfl, by kernel_rfl, rfl⟩,
  ⟨by kernel_rfl, by kernel_rfl, rfl⟩,
  ⟨by kernel_rfl, by kernel_rfl, rfl⟩,
  ⟨by kernel_rfl, by kernel_rfl, rfl⟩,
  ⟨by kernel_rfl, by kernel_rfl, rfl⟩,
  ⟨by kernel_rfl, by kernel_rfl, rfl⟩,
  ⟨by kernel_rfl, by kernel_rfl, rfl⟩,
  ⟨by kernel_rfl, by kernel_rfl, rfl⟩,
  ⟨by kernel_rfl, by kernel_rfl, rfl⟩,
  ⟨by kernel_rfl, by kernel_rfl, rfl⟩,
  ⟨by kernel_rfl, by kernel_rfl, rfl⟩,
  ⟨by kernel_rfl, by kernel_rfl, rfl⟩,
  ⟨by kernel_rfl, by kernel_rfl, rfl⟩,
  trivial⟩
def Tryd.fns : List Nat := [2, 3, 4, 5, 6, 7, 8, 9, 10, 11, 12, 13, 14, 15, 16, 17, 18, 19, 20, 21, 22, 23, 24, 25, 26, 27, 28, 29, 30, 31, 32, 33, 34, 35, 36, 37, 38, 39, 40, 41, 42, 43, 44, 45, 46, 47, 48, 49, 50, 51, 52, 53, 54, 55, 78]
theorem Tryd.fns_enter : (Tryd.fns.all (entersB Tryd.prog)) = true := by kernel_rfl
noncomputable def Tryd.cx (N : Nat) (SR SB SC : List Nat) (w : World) : Cx := ⟨Tryd.prog, Tryd.tab, Tryd.fns, N, SR, SB, SC, w.heap.size, [], w⟩
theorem Tryd.ok (N : Nat) (SR SB SC : List Nat) (w : World) : COk (Tryd.cx N SR SB SC w) :=
  ⟨Tryd.tok, fun _ h => enters_of (memN_all Tryd.fns_enter h), by kernel_rfl⟩
theorem Tryd.eqIn33 (d : Nat) (a0 b0 : Int) (a1 b1 : Int) (w : World) : (Op.equalIn (d + 1 + 1) 33 (.agg #[.int .i64 a0, .int .u8 a1]) (.agg #[.int .i64 b0, .int .u8 b1])).run Tryd.prog w = .ok (a0 == b0 && (a1 == b1 && true)) w :=
  equalIn_st [(true, 3, 0), (true, 5, 1)] (by kernel_rfl) (by kernel_rfl) (by kernel_rfl)
    (eqs_cons (.int .i64 a0) (.int .i64 b0) (by kernel_rfl) (by kernel_rfl) (run_equalIn_int w (d) 3 .i64 .i64 _ _ (by kernel_rfl)) (eqs_cons (.int .u8 a1) (.int .u8 b1) (by kernel_rfl) (by kernel_rfl) (run_equalIn_int w (d) 5 .u8 .u8 _ _ (by kernel_rfl)) eqs_nil))
theorem Tryd.eq33 (a0 b0 : Int) (a1 b1 : Int) (w : World) : (Op.equal 33 (SV.a [.v (.int .i64 a0), .v (.int .u8 a1)]).real (SV.a [.v (.int .i64 b0), .v (.int .u8 b1)]).real).run Tryd.prog w = .ok (a0 == b0 && (a1 == b1 && true)) w :=
  Tryd.eqIn33 9998 a0 b0 a1 b1 w
theorem Tryd.eqg33 : Tryd.prog.eqGuardType Tryd.prog.depth 33 = false := by kernel_rfl
theorem Tryd.eqIn34 (d : Nat) (a0 b0 : Int) (a1 b1 : Int) (w : World) : (Op.equalIn (d + 1 + 1) 34 (.agg #[.int .i64 a0, .int .u8 a1]) (.agg #[.int .i64 b0, .int .u8 b1])).run Tryd.prog w = .ok (a0 == b0 && (a1 == b1 && true)) w :=
  equalIn_st [(true, 3, 0), (true, 5, 1)] (by kernel_rfl) (by kernel_rfl) (by kernel_rfl)
    (eqs_cons (.int .i64 a0) (.int .i64 b0) (by kernel_rfl) (by kernel_rfl) (run_equalIn_int w (d) 3 .i64 .i64 _ _ (by kernel_rfl)) (eqs_cons (.int .u8 a1) (.int .u8 b1) (by kernel_rfl) (by kernel_rfl) (run_equalIn_int w (d) 5 .u8 .u8 _ _ (by kernel_rfl)) eqs_nil))
theorem Tryd.eq34 (a0 b0 : Int) (a1 b1 : Int) (w : World) : (Op.equal 34 (SV.a [.v (.int .i64 a0), .v (.int .u8 a1)]).real (SV.a [.v (.int .i64 b0), .v (.int .u8 b1)]).real).run Tryd.prog w = .ok (a0 == b0 && (a1 == b1 && true)) w :=
  Tryd.eqIn34 9998 a0 b0 a1 b1 w
theorem Tryd.eqg34 : Tryd.prog.eqGuardType Tryd.prog.depth 34 = false := by kernel_rfl
theorem Tryd.eqIn45 (d : Nat) (a0 b0 : Int) (a1 b1 : Bool) (a2 b2 : Bool) (w : World) : (Op.equalIn (d + 1 + 1) 45 (.agg #[.int .u8 a0, .bool a1, .bool a2]) (.agg #[.int .u8 b0, .bool b1, .bool b2])).run Tryd.prog w = .ok (a0 == b0 && (a1 == b1 && (a2 == b2 && true))) w :=
  equalIn_st [(true, 5, 0), (true, 4, 1), (true, 4, 2)] (by kernel_rfl) (by kernel_rfl) (by kernel_rfl)
    (eqs_cons (.int .u8 a0) (.int .u8 b0) (by kernel_rfl) (by kernel_rfl) (run_equalIn_int w (d) 5 .u8 .u8 _ _ (by kernel_rfl)) (eqs_cons (.bool a1) (.bool b1) (by kernel_rfl) (by kernel_rfl) (run_equalIn_bool' w (d) 4 _ _ (by kernel_rfl)) (eqs_cons (.bool a2) (.bool b2) (by kernel_rfl) (by kernel_rfl) (run_equalIn_bool' w (d) 4 _ _ (by kernel_rfl)) eqs_nil)))
theorem Tryd.eq45 (a0 b0 : Int) (a1 b1 : Bool) (a2 b2 : Bool) (w : World) : (Op.equal 45 (SV.a [.v (.int .u8 a0), .v (.bool a1), .v (.bool a2)]).real (SV.a [.v (.int .u8 b0), .v (.bool b1), .v (.bool b2)]).real).run Tryd.prog w = .ok (a0 == b0 && (a1 == b1 && (a2 == b2 && true))) w :=
  Tryd.eqIn45 9998 a0 b0 a1 b1 a2 b2 w
theorem Tryd.eqg45 : Tryd.prog.eqGuardType Tryd.prog.depth 45 = false := by kernel_rfl
theorem Tryd.eqIn46 (d : Nat) (a0 b0 : Int) (a1 b1 : Bool) (a2 b2 : Bool) (w : World) : (Op.equalIn (d + 1 + 1) 46 (.agg #[.int .u8 a0, .bool a1, .bool a2]) (.agg #[.int .u8 b0, .bool b1, .bool b2])).run Tryd.prog w = .ok (a0 == b0 && (a1 == b1 && (a2 == b2 && true))) w :=
  equalIn_st [(true, 5, 0), (true, 4, 1), (true, 4, 2)] (by kernel_rfl) (by kernel_rfl) (by kernel_rfl)
    (eqs_cons (.int .u8 a0) (.int .u8 b0) (by kernel_rfl) (by kernel_rfl) (run_equalIn_int w (d) 5 .u8 .u8 _ _ (by kernel_rfl)) (eqs_cons (.bool a1) (.bool b1) (by kernel_rfl) (by kernel_rfl) (run_equalIn_bool' w (d) 4 _ _ (by kernel_rfl)) (eqs_cons (.bool a2) (.bool b2) (by kernel_rfl) (by kernel_rfl) (run_equalIn_bool' w (d) 4 _ _ (by kernel_rfl)) eqs_nil)))
theorem Tryd.eq46 (a0 b0 : Int) (a1 b1 : Bool) (a2 b2 : Bool) (w : World) : (Op.equal 46 (SV.a [.v (.int .u8 a0), .v (.bool a1), .v (.bool a2)]).real (SV.a [.v (.int .u8 b0), .v (.bool b1), .v (.bool b2)]).real).run Tryd.prog w = .ok (a0 == b0 && (a1 == b1 && (a2 == b2 && true))) w :=
  Tryd.eqIn46 9998 a0 b0 a1 b1 a2 b2 w
theorem Tryd.eqg46 : Tryd.prog.eqGuardType Tryd.prog.depth 46 = false := by kernel_rfl
theorem Tryd.eqIn60 (d : Nat) (a0 b0 : Int) (a1 b1 : Bool) (a2 b2 : Bool) (w : World) : (Op.equalIn (d + 1 + 1) 60 (.agg #[.int .u8 a0, .bool a1, .bool a2]) (.agg #[.int .u8 b0, .bool b1, .bool b2])).run Tryd.prog w = .ok (a0 == b0 && (a1 == b1 && (a2 == b2 && true))) w :=
  equalIn_st [(true, 5, 0), (true, 4, 1), (true, 4, 2)] (by kernel_rfl) (by kernel_rfl) (by kernel_rfl)
    (eqs_cons (.int .u8 a0) (.int .u8 b0) (by kernel_rfl) (by kernel_rfl) (run_equalIn_int w (d) 5 .u8 .u8 _ _ (by kernel_rfl)) (eqs_cons (.bool a1) (.bool b1) (by kernel_rfl) (by kernel_rfl) (run_equalIn_bool' w (d) 4 _ _ (by kernel_rfl)) (eqs_cons (.bool a2) (.bool b2) (by kernel_rfl) (by kernel_rfl) (run_equalIn_bool' w (d) 4 _ _ (by kernel_rfl)) eqs_nil)))
theorem Tryd.eq60 (a0 b0 : Int) (a1 b1 : Bool) (a2 b2 : Bool) (w : World) : (Op.equal 60 (SV.a [.v (.int .u8 a0), .v (.bool a1), .v (.bool a2)]).real (SV.a [.v (.int .u8 b0), .v (.bool b1), .v (.bool b2)]).real).run Tryd.prog w = .ok (a0 == b0 && (a1 == b1 && (a2 == b2 && true))) w :=
  Tryd.eqIn60 9998 a0 b0 a1 b1 a2 b2 w
theorem Tryd.eqg60 : Tryd.prog.eqGuardType Tryd.prog.depth 60 = false := by kernel_rfl
theorem Tryd.eqIn66 (d : Nat) (a0 b0 : Int) (a1 b1 : Int) (w : World) : (Op.equalIn (d + 1 + 1) 66 (.agg #[.int .i64 a0, .int .u8 a1]) (.agg #[.int .i64 b0, .int .u8 b1])).run Tryd.prog w = .ok (a0 == b0 && (a1 == b1 && true)) w :=
  equalIn_st [(true, 3, 0), (true, 5, 1)] (by kernel_rfl) (by kernel_rfl) (by kernel_rfl)
    (eqs_cons (.int .i64 a0) (.int .i64 b0) (by kernel_rfl) (by kernel_rfl) (run_equalIn_int w (d) 3 .i64 .i64 _ _ (by kernel_rfl)) (eqs_cons (.int .u8 a1) (.int .u8 b1) (by kernel_rfl) (by kernel_rfl) (run_equalIn_int w (d) 5 .u8 .u8 _ _ (by kernel_rfl)) eqs_nil))
theorem Tryd.eq66 (a0 b0 : Int) (a1 b1 : Int) (w : World) : (Op.equal 66 (SV.a [.v (.int .i64 a0), .v (.int .u8 a1)]).real (SV.a [.v (.int .i64 b0), .v (.int .u8 b1)]).real).run Tryd.prog w = .ok (a0 == b0 && (a1 == b1 && true)) w :=
  Tryd.eqIn66 9998 a0 b0 a1 b1 w
theorem Tryd.eqg66 : Tryd.prog.eqGuardType Tryd.prog.depth 66 = false := by kernel_rfl
theorem Tryd.eqIn76 (d : Nat) (a0 b0 : ByteArray) (a1 b1 : Int) (a2 b2 : Bool) (a3 b3 : Bool) (w : World) : (Op.equalIn (d + 1 + 1 + 1) 76 (.agg #[.string a0, .int .u8 a1, .bool a2, .bool a3]) (.agg #[.string b0, .int .u8 b1, .bool b2, .bool b3])).run Tryd.prog w = .ok (a0 == b0 && ((a1 == b1 && (a2 == b2 && (a3 == b3 && true))) && true)) w :=
  equalIn_st [(true, 9, 0), (true, 46, 1)] (by kernel_rfl) (by kernel_rfl) (by kernel_rfl)
    (eqs_cons (.string a0) (.string b0) (by kernel_rfl) (by kernel_rfl) (eqs_string w (d + 1) 9 _ _ (by kernel_rfl)) (eqs_cons (.agg #[.int .u8 a1, .bool a2, .bool a3]) (.agg #[.int .u8 b1, .bool b2, .bool b3]) (by kernel_rfl) (by kernel_rfl) (Tryd.eqIn46 (d) a1 b1 a2 b2 a3 b3 w) eqs_nil))
theorem Tryd.eq76 (a0 b0 : ByteArray) (a1 b1 : Int) (a2 b2 : Bool) (a3 b3 : Bool) (w : World) : (Op.equal 76 (SV.a [.v (.string a0), .v (.int .u8 a1), .v (.bool a2), .v (.bool a3)]).real (SV.a [.v (.string b0), .v (.int .u8 b1), .v (.bool b2), .v (.bool b3)]).real).run Tryd.prog w = .ok (a0 == b0 && ((a1 == b1 && (a2 == b2 && (a3 == b3 && true))) && true)) w :=
  Tryd.eqIn76 9997 a0 b0 a1 b1 a2 b2 a3 b3 w
theorem Tryd.eqg76 : Tryd.prog.eqGuardType Tryd.prog.depth 76 = false := by kernel_rfl
end Go.Proofs.YtedpadjlkddgjaaDoor
