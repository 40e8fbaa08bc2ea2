/- What the abstract machine knows of the types; no condition. -/
import Derived.Test.YtecdhmiamlgibaaDoorProg
import Derived.Test.YtecdhmiamlgibaaDoorAmA
namespace Go.Proofs.YtecdhmiamlgibaaDoor
open Go.RowKit
set_option maxRecDepth 100000
def TTl : List (Nat × TI) := [
  (1, { size := 1, agg := false, zero := [Value.nilFunc], kind := TK.plain (TypeDesc.func { toList := [] } { toList := [] } false), eqk := none }),
  (2, { size := 1, agg := false, zero := [Value.int IntKind.i64 0], kind := TK.plain (TypeDesc.int IntKind.i64), eqk := none }),
  (3, { size := 1, agg := false, zero := [Value.int IntKind.i64 0], kind := TK.plain (TypeDesc.int IntKind.i64), eqk := none }),
  (4, { size := 1, agg := false, zero := [Value.bool false], kind := TK.plain TypeDesc.bool, eqk := none }),
  (5, { size := 1, agg := false, zero := [Value.int IntKind.u8 0], kind := TK.plain (TypeDesc.int IntKind.u8), eqk := none }),
  (9, { size := 1, agg := false, zero := [Value.string { data := { toList := [] } }], kind := TK.plain TypeDesc.string, eqk := none }),
  (12, { size := 1, agg := false, zero := [Value.int IntKind.u64 0], kind := TK.plain (TypeDesc.int IntKind.u64), eqk := none }),
  (20, { size := 1, agg := false, zero := [Value.nilIface], kind := TK.plain (TypeDesc.interface { toList := [] }), eqk := none }),
  (21, { size := 1, agg := false, zero := [Value.int IntKind.i32 0], kind := TK.plain (TypeDesc.int IntKind.i32), eqk := none }),
  (22, { size := 1, agg := false, zero := [Value.slice none 0 0], kind := TK.slice 57 3 40 [Value.int IntKind.i64 0, Value.int IntKind.i64 0, Value.slice none 0 0], eqk := none }),
  (23, { size := 2, agg := true, zero := [Value.int IntKind.i64 0, Value.slice none 0 0], kind := TK.strct [(0, 1, false), (1, 1, false)], eqk := none }),
  (24, { size := 2, agg := true, zero := [Value.int IntKind.i64 0, Value.slice none 0 0], kind := TK.strct [(0, 1, false), (1, 1, false)], eqk := none }),
  (25, { size := 1, agg := false, zero := [Value.int IntKind.u64 0], kind := TK.plain (TypeDesc.int IntKind.u64), eqk := none }),
  (26, { size := 2, agg := true, zero := [Value.int IntKind.u64 0, Value.int IntKind.u64 0], kind := TK.arr 2 1 false, eqk := some true }),
  (27, { size := 2, agg := true, zero := [Value.int IntKind.u64 0, Value.int IntKind.u64 0], kind := TK.arr 2 1 false, eqk := some true }),
  (28, { size := 1, agg := false, zero := [Value.nilFunc], kind := TK.plain (TypeDesc.func { toList := [24, 3] } { toList := [4] } false), eqk := none }),
  (29, { size := 1, agg := false, zero := [Value.nilFunc], kind := TK.plain (TypeDesc.func { toList := [] } { toList := [4] } false), eqk := none }),
  (30, { size := 1, agg := false, zero := [Value.slice none 0 0], kind := TK.slice 34 1 24 [Value.slice none 0 0], eqk := none }),
  (31, { size := 1, agg := false, zero := [Value.int IntKind.i64 0], kind := TK.plain (TypeDesc.int IntKind.i64), eqk := none }),
  (33, { size := 1, agg := false, zero := [Value.nilFunc], kind := TK.plain (TypeDesc.func { toList := [24, 27] } { toList := [30, 31] } false), eqk := none }),
  (34, { size := 1, agg := false, zero := [Value.slice none 0 0], kind := TK.slice 3 1 8 [Value.int IntKind.i64 0], eqk := none }),
  (36, { size := 1, agg := false, zero := [Value.nilFunc], kind := TK.plain (TypeDesc.func { toList := [24, 27] } { toList := [34, 31] } false), eqk := none }),
  (37, { size := 1, agg := false, zero := [Value.nilFunc], kind := TK.plain (TypeDesc.func { toList := [30, 30] } { toList := [4] } false), eqk := none }),
  (38, { size := 1, agg := false, zero := [Value.nilFunc], kind := TK.plain (TypeDesc.func { toList := [34, 34] } { toList := [4] } false), eqk := none }),
  (39, { size := 1, agg := false, zero := [Value.nilFunc], kind := TK.plain (TypeDesc.func { toList := [24, 27] } { toList := [4] } false), eqk := none }),
  (41, { size := 1, agg := false, zero := [Value.nilFunc], kind := TK.plain (TypeDesc.func { toList := [24, 27, 27] } { toList := [4, 31] } false), eqk := none }),
  (42, { size := 1, agg := false, zero := [Value.nilFunc], kind := TK.plain (TypeDesc.func { toList := [27, 27] } { toList := [27] } false), eqk := none }),
  (43, { size := 1, agg := false, zero := [Value.nilFunc], kind := TK.plain (TypeDesc.func { toList := [24, 27, 27, 27] } { toList := [4] } false), eqk := none }),
  (44, { size := 1, agg := false, zero := [Value.nilFunc], kind := TK.plain (TypeDesc.func { toList := [34] } { toList := [27] } true), eqk := none }),
  (45, { size := 1, agg := false, zero := [Value.nilFunc], kind := TK.plain (TypeDesc.func { toList := [34] } { toList := [34] } false), eqk := none }),
  (46, { size := 1, agg := false, zero := [Value.nilFunc], kind := TK.plain (TypeDesc.func { toList := [24, 27, 27] } { toList := [4] } false), eqk := none }),
  (47, { size := 1, agg := false, zero := [Value.nilFunc], kind := TK.plain (TypeDesc.func { toList := [27, 3] } { toList := [27] } false), eqk := none }),
  (48, { size := 1, agg := false, zero := [Value.nilFunc], kind := TK.plain (TypeDesc.func { toList := [3] } { toList := [27] } false), eqk := none }),
  (49, { size := 1, agg := false, zero := [Value.nilFunc], kind := TK.plain (TypeDesc.func { toList := [34, 27] } { toList := [27] } false), eqk := none }),
  (51, { size := 1, agg := false, zero := [Value.nilFunc], kind := TK.plain (TypeDesc.func { toList := [24, 27] } { toList := [27, 4, 31] } false), eqk := none }),
  (52, { size := 1, agg := false, zero := [Value.nilFunc], kind := TK.plain (TypeDesc.func { toList := [3] } { toList := [24] } false), eqk := none }),
  (53, { size := 1, agg := false, zero := [Value.nilFunc], kind := TK.plain (TypeDesc.func { toList := [27, 3] } { toList := [4] } false), eqk := none }),
  (54, { size := 1, agg := false, zero := [Value.nilFunc], kind := TK.plain (TypeDesc.func { toList := [5, 27] } { toList := [4] } false), eqk := none }),
  (55, { size := 1, agg := false, zero := [Value.nilFunc], kind := TK.plain (TypeDesc.func { toList := [] } { toList := [24] } false), eqk := none }),
  (56, { size := 3, agg := true, zero := [Value.int IntKind.i64 0, Value.int IntKind.i64 0, Value.slice none 0 0], kind := TK.strct [(0, 1, false), (1, 1, false), (2, 1, false)], eqk := none }),
  (57, { size := 3, agg := true, zero := [Value.int IntKind.i64 0, Value.int IntKind.i64 0, Value.slice none 0 0], kind := TK.strct [(0, 1, false), (1, 1, false), (2, 1, false)], eqk := none }),
  (58, { size := 1, agg := false, zero := [Value.nilFunc], kind := TK.plain (TypeDesc.func { toList := [27, 27] } { toList := [4] } false), eqk := none }),
  (59, { size := 1, agg := false, zero := [Value.nilFunc], kind := TK.plain (TypeDesc.func { toList := [24] } { toList := [4] } false), eqk := none }),
  (60, { size := 1, agg := false, zero := [Value.nilFunc], kind := TK.plain (TypeDesc.func { toList := [27] } { toList := [3] } false), eqk := none }),
  (61, { size := 1, agg := false, zero := [Value.nilFunc], kind := TK.plain (TypeDesc.func { toList := [24] } { toList := [27] } false), eqk := none }),
  (62, { size := 1, agg := false, zero := [Value.pointer none], kind := TK.plain (TypeDesc.pointer 68), eqk := none }),
  (64, { size := 1, agg := false, zero := [Value.nilFunc], kind := TK.plain (TypeDesc.func { toList := [24, 27] } { toList := [62, 3, 31] } false), eqk := none }),
  (65, { size := 1, agg := false, zero := [Value.slice none 0 0], kind := TK.slice 4 1 1 [Value.bool false], eqk := none }),
  (66, { size := 1, agg := false, zero := [Value.nilFunc], kind := TK.plain (TypeDesc.func { toList := [3] } { toList := [65] } false), eqk := none }),
  (67, { size := 3, agg := true, zero := [Value.int IntKind.i64 0, Value.slice none 0 0, Value.slice none 0 0], kind := TK.strct [(0, 1, false), (1, 1, false), (2, 1, false)], eqk := none }),
  (68, { size := 3, agg := true, zero := [Value.int IntKind.i64 0, Value.slice none 0 0, Value.slice none 0 0], kind := TK.strct [(0, 1, false), (1, 1, false), (2, 1, false)], eqk := none }),
  (69, { size := 1, agg := false, zero := [Value.int IntKind.u64 0], kind := TK.plain (TypeDesc.int IntKind.u64), eqk := none }),
  (70, { size := 1, agg := false, zero := [Value.nilFunc], kind := TK.plain (TypeDesc.func { toList := [3, 3] } { toList := [34] } false), eqk := none }),
  (71, { size := 1, agg := false, zero := [Value.nilFunc], kind := TK.plain (TypeDesc.func { toList := [30, 72] } { toList := [] } false), eqk := none }),
  (72, { size := 1, agg := false, zero := [Value.nilFunc], kind := TK.plain (TypeDesc.func { toList := [34, 34] } { toList := [3] } false), eqk := none }),
  (73, { size := 1, agg := false, zero := [Value.nilFunc], kind := TK.plain (TypeDesc.func { toList := [24, 27] } { toList := [31] } false), eqk := none }),
  (74, { size := 1, agg := false, zero := [Value.slice none 0 0], kind := TK.slice 27 2 16 [Value.int IntKind.u64 0, Value.int IntKind.u64 0], eqk := none }),
  (75, { size := 1, agg := false, zero := [Value.nilFunc], kind := TK.plain (TypeDesc.func { toList := [27] } { toList := [74] } false), eqk := none }),
  (76, { size := 1, agg := false, zero := [Value.nilFunc], kind := TK.plain (TypeDesc.func { toList := [30, 34] } { toList := [30] } false), eqk := none }),
  (77, { size := 1, agg := false, zero := [Value.nilFunc], kind := TK.plain (TypeDesc.func { toList := [27, 27] } { toList := [34] } false), eqk := none }),
  (79, { size := 1, agg := false, zero := [Value.nilFunc], kind := TK.plain (TypeDesc.func { toList := [3] } { toList := [3, 25, 4] } false), eqk := none }),
  (80, { size := 1, agg := false, zero := [Value.nilFunc], kind := TK.plain (TypeDesc.func { toList := [24] } { toList := [31] } false), eqk := none }),
  (81, { size := 1, agg := false, zero := [Value.nilFunc], kind := TK.plain (TypeDesc.func { toList := [34, 82] } { toList := [4] } false), eqk := none }),
  (82, { size := 1, agg := false, zero := [Value.nilFunc], kind := TK.plain (TypeDesc.func { toList := [3] } { toList := [4] } false), eqk := none }),
  (84, { size := 1, agg := false, zero := [Value.nilFunc], kind := TK.plain (TypeDesc.func { toList := [24] } { toList := [62, 31] } false), eqk := none }),
  (85, { size := 1, agg := false, zero := [Value.slice none 0 0], kind := TK.slice 86 2 2 [Value.bool false, Value.bool false], eqk := none }),
  (86, { size := 2, agg := true, zero := [Value.bool false, Value.bool false], kind := TK.arr 2 1 false, eqk := some false }),
  (87, { size := 1, agg := false, zero := [Value.nilFunc], kind := TK.plain (TypeDesc.func { toList := [25] } { toList := [25] } false), eqk := none }),
  (88, { size := 1, agg := false, zero := [Value.nilFunc], kind := TK.plain (TypeDesc.func { toList := [34, 82] } { toList := [34] } false), eqk := none }),
  (89, { size := 1, agg := false, zero := [Value.nilFunc], kind := TK.plain (TypeDesc.func { toList := [3] } { toList := [57] } false), eqk := none }),
  (90, { size := 1, agg := false, zero := [Value.nilFunc], kind := TK.plain (TypeDesc.func { toList := [57, 3, 3] } { toList := [4] } false), eqk := none }),
  (91, { size := 1, agg := false, zero := [Value.nilFunc], kind := TK.plain (TypeDesc.func { toList := [27] } { toList := [34] } false), eqk := none }),
  (92, { size := 1, agg := false, zero := [Value.nilFunc], kind := TK.plain (TypeDesc.func { toList := [24] } { toList := [74] } false), eqk := none }),
  (93, { size := 1, agg := false, zero := [Value.nilFunc], kind := TK.plain (TypeDesc.func { toList := [3] } { toList := [] } false), eqk := none }),
  (94, { size := 1, agg := false, zero := [Value.nilFunc], kind := TK.plain (TypeDesc.func { toList := [30, 3, 3, 3, 72] } { toList := [] } false), eqk := none }),
  (95, { size := 1, agg := false, zero := [Value.nilFunc], kind := TK.plain (TypeDesc.func { toList := [69] } { toList := [3] } false), eqk := none }),
  (96, { size := 1, agg := false, zero := [Value.nilFunc], kind := TK.plain (TypeDesc.func { toList := [34, 34, 97] } { toList := [3] } false), eqk := none }),
  (97, { size := 1, agg := false, zero := [Value.nilFunc], kind := TK.plain (TypeDesc.func { toList := [3, 3] } { toList := [3] } false), eqk := none }),
  (98, { size := 1, agg := false, zero := [Value.nilFunc], kind := TK.plain (TypeDesc.func { toList := [3] } { toList := [3] } false), eqk := none }),
  (99, { size := 1, agg := false, zero := [Value.nilFunc], kind := TK.plain (TypeDesc.func { toList := [34, 82] } { toList := [3] } false), eqk := none }),
  (100, { size := 1, agg := false, zero := [Value.nilFunc], kind := TK.plain (TypeDesc.func { toList := [27, 27, 27] } { toList := [27] } false), eqk := none }),
  (101, { size := 1, agg := false, zero := [Value.nilFunc], kind := TK.plain (TypeDesc.func { toList := [] } { toList := [65] } false), eqk := none }),
  (102, { size := 1, agg := false, zero := [Value.nilFunc], kind := TK.plain (TypeDesc.func { toList := [65] } { toList := [27] } false), eqk := none }),
  (103, { size := 1, agg := false, zero := [Value.nilFunc], kind := TK.plain (TypeDesc.func { toList := [24, 3] } { toList := [25] } false), eqk := none }),
  (104, { size := 1, agg := false, zero := [Value.nilFunc], kind := TK.plain (TypeDesc.func { toList := [82] } { toList := [] } false), eqk := none }),
  (105, { size := 1, agg := false, zero := [Value.nilFunc], kind := TK.plain (TypeDesc.func { toList := [82] } { toList := [] } false), eqk := none }),
  (106, { size := 1, agg := false, zero := [Value.nilFunc], kind := TK.plain (TypeDesc.func { toList := [27] } { toList := [105] } false), eqk := none }),
  (107, { size := 1, agg := false, zero := [Value.nilFunc], kind := TK.plain (TypeDesc.func { toList := [3, 3] } { toList := [4] } false), eqk := none }),
  (108, { size := 1, agg := false, zero := [Value.nilFunc], kind := TK.plain (TypeDesc.func { toList := [30, 3, 3, 72] } { toList := [] } false), eqk := none }),
  (109, { size := 1, agg := false, zero := [Value.int IntKind.i64 0], kind := TK.plain (TypeDesc.int IntKind.i64), eqk := none }),
  (111, { size := 1, agg := false, zero := [Value.nilFunc], kind := TK.plain (TypeDesc.func { toList := [30, 3, 3, 72] } { toList := [3, 109] } false), eqk := none }),
  (112, { size := 1, agg := false, zero := [Value.nilFunc], kind := TK.plain (TypeDesc.func { toList := [30, 3, 3, 72] } { toList := [4] } false), eqk := none }),
  (113, { size := 1, agg := false, zero := [Value.nilFunc], kind := TK.plain (TypeDesc.func { toList := [30, 3, 3, 3, 72] } { toList := [3] } false), eqk := none }),
  (115, { size := 1, agg := false, zero := [Value.nilFunc], kind := TK.plain (TypeDesc.func { toList := [30, 3, 3, 3, 72] } { toList := [3, 4] } false), eqk := none }),
  (116, { size := 1, agg := false, zero := [Value.nilFunc], kind := TK.plain (TypeDesc.func { toList := [117] } { toList := [3] } false), eqk := none }),
  (117, { size := 1, agg := false, zero := [Value.int IntKind.u32 0], kind := TK.plain (TypeDesc.int IntKind.u32), eqk := none }),
  (118, { size := 1, agg := false, zero := [Value.nilFunc], kind := TK.plain (TypeDesc.func { toList := [25] } { toList := [3] } false), eqk := none }),
  (119, { size := 1, agg := false, zero := [Value.nilFunc], kind := TK.plain (TypeDesc.func { toList := [34] } { toList := [27] } false), eqk := none }),
  (120, { size := 1, agg := false, zero := [Value.nilFunc], kind := TK.plain (TypeDesc.func { toList := [24, 27] } { toList := [65] } false), eqk := none }),
  (121, { size := 1, agg := false, zero := [Value.nilFunc], kind := TK.plain (TypeDesc.func { toList := [105] } { toList := [34] } false), eqk := none }),
  (122, { size := 6, agg := true, zero := [Value.int IntKind.u64 0, Value.int IntKind.u64 0, Value.int IntKind.u64 0, Value.int IntKind.u64 0, Value.int IntKind.u64 0, Value.int IntKind.u64 0], kind := TK.arr 6 1 false, eqk := some true }),
  (123, { size := 1, agg := false, zero := [Value.map none], kind := TK.plain (TypeDesc.map 3 25), eqk := none }),
  (124, { size := 1, agg := false, zero := [Value.slice none 0 0], kind := TK.slice 25 1 8 [Value.int IntKind.u64 0], eqk := none }),
  (125, { size := 1, agg := false, zero := [Value.int IntKind.u64 0], kind := TK.plain (TypeDesc.int IntKind.u64), eqk := none }),
  (126, { size := 1, agg := false, zero := [Value.nilFunc], kind := TK.plain (TypeDesc.func { toList := [3] } { toList := [69] } false), eqk := none }),
  (127, { size := 1, agg := false, zero := [Value.nilFunc], kind := TK.plain (TypeDesc.func { toList := [] } { toList := [25] } false), eqk := none }),
  (128, { size := 1, agg := false, zero := [Value.nilFunc], kind := TK.plain (TypeDesc.func { toList := [30, 3, 129, 72] } { toList := [3] } false), eqk := none }),
  (129, { size := 1, agg := false, zero := [Value.pointer none], kind := TK.plain (TypeDesc.pointer 3), eqk := none }),
  (130, { size := 1, agg := false, zero := [Value.nilFunc], kind := TK.plain (TypeDesc.func { toList := [30, 3, 3, 3, 129, 72] } { toList := [3] } false), eqk := none }),
  (131, { size := 1, agg := false, zero := [Value.nilFunc], kind := TK.plain (TypeDesc.func { toList := [34, 105] } { toList := [34] } false), eqk := none }),
  (132, { size := 64, agg := true, zero := [Value.int IntKind.u8 0, Value.int IntKind.u8 0, Value.int IntKind.u8 0, Value.int IntKind.u8 0, Value.int IntKind.u8 0, Value.int IntKind.u8 0, Value.int IntKind.u8 0, Value.int IntKind.u8 0, Value.int IntKind.u8 0, Value.int IntKind.u8 0, Value.int IntKind.u8 0, Value.int IntKind.u8 0, Value.int IntKind.u8 0, Value.int IntKind.u8 0, Value.int IntKind.u8 0, Value.int IntKind.u8 0, Value.int IntKind.u8 0, Value.int IntKind.u8 0, Value.int IntKind.u8 0, Value.int IntKind.u8 0, Value.int IntKind.u8 0, Value.int IntKind.u8 0, Value.int IntKind.u8 0, Value.int IntKind.u8 0, Value.int IntKind.u8 0, Value.int IntKind.u8 0, Value.int IntKind.u8 0, Value.int IntKind.u8 0, Value.int IntKind.u8 0, Value.int IntKind.u8 0, Value.int IntKind.u8 0, Value.int IntKind.u8 0, Value.int IntKind.u8 0, Value.int IntKind.u8 0, Value.int IntKind.u8 0, Value.int IntKind.u8 0, Value.int IntKind.u8 0, Value.int IntKind.u8 0, Value.int IntKind.u8 0, Value.int IntKind.u8 0, Value.int IntKind.u8 0, Value.int IntKind.u8 0, Value.int IntKind.u8 0, Value.int IntKind.u8 0, Value.int IntKind.u8 0, Value.int IntKind.u8 0, Value.int IntKind.u8 0, Value.int IntKind.u8 0, Value.int IntKind.u8 0, Value.int IntKind.u8 0, Value.int IntKind.u8 0, Value.int IntKind.u8 0, Value.int IntKind.u8 0, Value.int IntKind.u8 0, Value.int IntKind.u8 0, Value.int IntKind.u8 0, Value.int IntKind.u8 0, Value.int IntKind.u8 0, Value.int IntKind.u8 0, Value.int IntKind.u8 0, Value.int IntKind.u8 0, Value.int IntKind.u8 0, Value.int IntKind.u8 0, Value.int IntKind.u8 0], kind := TK.arr 64 1 false, eqk := some true }),
  (133, { size := 1, agg := false, zero := [Value.pointer none], kind := TK.plain (TypeDesc.pointer 125), eqk := none }),
  (135, { size := 1, agg := false, zero := [Value.nilFunc], kind := TK.plain (TypeDesc.func { toList := [30, 3, 3, 129, 72] } { toList := [3, 3] } false), eqk := none }),
  (136, { size := 1, agg := false, zero := [Value.nilFunc], kind := TK.plain (TypeDesc.func { toList := [] } { toList := [9] } false), eqk := none }),
  (142, { size := 1, agg := false, zero := [Value.nilFunc], kind := TK.plain (TypeDesc.func { toList := [] } { toList := [3] } false), eqk := none }),
  (145, { size := 1, agg := false, zero := [Value.nilFunc], kind := TK.plain (TypeDesc.func { toList := [151, 151] } { toList := [4] } false), eqk := none }),
  (146, { size := 1, agg := false, zero := [Value.pointer none], kind := TK.plain (TypeDesc.pointer 5), eqk := none }),
  (151, { size := 1, agg := false, zero := [Value.pointer none], kind := TK.plain TypeDesc.unsafePointer, eqk := none })]
def TT : TTab := fun t => lk TTl t
@[simp] theorem TT_1 : TT 1 = some { size := 1, agg := false, zero := [Value.nilFunc], kind := TK.plain (TypeDesc.func { toList := [] } { toList := [] } false), eqk := none } := by kernel_rfl
@[simp] theorem TT_2 : TT 2 = some { size := 1, agg := false, zero := [Value.int IntKind.i64 0], kind := TK.plain (TypeDesc.int IntKind.i64), eqk := none } := by kernel_rfl
@[simp] theorem TT_3 : TT 3 = some { size := 1, agg := false, zero := [Value.int IntKind.i64 0], kind := TK.plain (TypeDesc.int IntKind.i64), eqk := none } := by kernel_rfl
@[simp] theorem TT_4 : TT 4 = some { size := 1, agg := false, zero := [Value.bool false], kind := TK.plain TypeDesc.bool, eqk := none } := by kernel_rfl
@[simp] theorem TT_5 : TT 5 = some { size := 1, agg := false, zero := [Value.int IntKind.u8 0], kind := TK.plain (TypeDesc.int IntKind.u8), eqk := none } := by kernel_rfl
@[simp] theorem TT_9 : TT 9 = some { size := 1, agg := false, zero := [Value.string { data := { toList := [] } }], kind := TK.plain TypeDesc.string, eqk := none } := by kernel_rfl
@[simp] theorem TT_12 : TT 12 = some { size := 1, agg := false, zero := [Value.int IntKind.u64 0], kind := TK.plain (TypeDesc.int IntKind.u64), eqk := none } := by kernel_rfl
@[simp] theorem TT_20 : TT 20 = some { size := 1, agg := false, zero := [Value.nilIface], kind := TK.plain (TypeDesc.interface { toList := [] }), eqk := none } := by kernel_rfl
@[simp] theorem TT_21 : TT 21 = some { size := 1, agg := false, zero := [Value.int IntKind.i32 0], kind := TK.plain (TypeDesc.int IntKind.i32), eqk := none } := by kernel_rfl
@[simp] theorem TT_22 : TT 22 = some { size := 1, agg := false, zero := [Value.slice none 0 0], kind := TK.slice 57 3 40 [Value.int IntKind.i64 0, Value.int IntKind.i64 0, Value.slice none 0 0], eqk := none } := by kernel_rfl
@[simp] theorem TT_23 : TT 23 = some { size := 2, agg := true, zero := [Value.int IntKind.i64 0, Value.slice none 0 0], kind := TK.strct [(0, 1, false), (1, 1, false)], eqk := none } := by kernel_rfl
@[simp] theorem TT_24 : TT 24 = some { size := 2, agg := true, zero := [Value.int IntKind.i64 0, Value.slice none 0 0], kind := TK.strct [(0, 1, false), (1, 1, false)], eqk := none } := by kernel_rfl
@[simp] theorem TT_25 : TT 25 = some { size := 1, agg := false, zero := [Value.int IntKind.u64 0], kind := TK.plain (TypeDesc.int IntKind.u64), eqk := none } := by kernel_rfl
@[simp] theorem TT_26 : TT 26 = some { size := 2, agg := true, zero := [Value.int IntKind.u64 0, Value.int IntKind.u64 0], kind := TK.arr 2 1 false, eqk := some true } := by kernel_rfl
@[simp] theorem TT_27 : TT 27 = some { size := 2, agg := true, zero := [Value.int IntKind.u64 0, Value.int IntKind.u64 0], kind := TK.arr 2 1 false, eqk := some true } := by kernel_rfl
@[simp] theorem TT_28 : TT 28 = some { size := 1, agg := false, zero := [Value.nilFunc], kind := TK.plain (TypeDesc.func { toList := [24, 3] } { toList := [4] } false), eqk := none } := by kernel_rfl
@[simp] theorem TT_29 : TT 29 = some { size := 1, agg := false, zero := [Value.nilFunc], kind := TK.plain (TypeDesc.func { toList := [] } { toList := [4] } false), eqk := none } := by kernel_rfl
@[simp] theorem TT_30 : TT 30 = some { size := 1, agg := false, zero := [Value.slice none 0 0], kind := TK.slice 34 1 24 [Value.slice none 0 0], eqk := none } := by kernel_rfl
@[simp] theorem TT_31 : TT 31 = some { size := 1, agg := false, zero := [Value.int IntKind.i64 0], kind := TK.plain (TypeDesc.int IntKind.i64), eqk := none } := by kernel_rfl
@[simp] theorem TT_33 : TT 33 = some { size := 1, agg := false, zero := [Value.nilFunc], kind := TK.plain (TypeDesc.func { toList := [24, 27] } { toList := [30, 31] } false), eqk := none } := by kernel_rfl
@[simp] theorem TT_34 : TT 34 = some { size := 1, agg := false, zero := [Value.slice none 0 0], kind := TK.slice 3 1 8 [Value.int IntKind.i64 0], eqk := none } := by kernel_rfl
@[simp] theorem TT_36 : TT 36 = some { size := 1, agg := false, zero := [Value.nilFunc], kind := TK.plain (TypeDesc.func { toList := [24, 27] } { toList := [34, 31] } false), eqk := none } := by kernel_rfl
@[simp] theorem TT_37 : TT 37 = some { size := 1, agg := false, zero := [Value.nilFunc], kind := TK.plain (TypeDesc.func { toList := [30, 30] } { toList := [4] } false), eqk := none } := by kernel_rfl
@[simp] theorem TT_38 : TT 38 = some { size := 1, agg := false, zero := [Value.nilFunc], kind := TK.plain (TypeDesc.func { toList := [34, 34] } { toList := [4] } false), eqk := none } := by kernel_rfl
@[simp] theorem TT_39 : TT 39 = some { size := 1, agg := false, zero := [Value.nilFunc], kind := TK.plain (TypeDesc.func { toList := [24, 27] } { toList := [4] } false), eqk := none } := by kernel_rfl
@[simp] theorem TT_41 : TT 41 = some { size := 1, agg := false, zero := [Value.nilFunc], kind := TK.plain (TypeDesc.func { toList := [24, 27, 27] } { toList := [4, 31] } false), eqk := none } := by kernel_rfl
@[simp] theorem TT_42 : TT 42 = some { size := 1, agg := false, zero := [Value.nilFunc], kind := TK.plain (TypeDesc.func { toList := [27, 27] } { toList := [27] } false), eqk := none } := by kernel_rfl
@[simp] theorem TT_43 : TT 43 = some { size := 1, agg := false, zero := [Value.nilFunc], kind := TK.plain (TypeDesc.func { toList := [24, 27, 27, 27] } { toList := [4] } false), eqk := none } := by kernel_rfl
@[simp] theorem TT_44 : TT 44 = some { size := 1, agg := false, zero := [Value.nilFunc], kind := TK.plain (TypeDesc.func { toList := [34] } { toList := [27] } true), eqk := none } := by kernel_rfl
@[simp] theorem TT_45 : TT 45 = some { size := 1, agg := false, zero := [Value.nilFunc], kind := TK.plain (TypeDesc.func { toList := [34] } { toList := [34] } false), eqk := none } := by kernel_rfl
@[simp] theorem TT_46 : TT 46 = some { size := 1, agg := false, zero := [Value.nilFunc], kind := TK.plain (TypeDesc.func { toList := [24, 27, 27] } { toList := [4] } false), eqk := none } := by kernel_rfl
@[simp] theorem TT_47 : TT 47 = some { size := 1, agg := false, zero := [Value.nilFunc], kind := TK.plain (TypeDesc.func { toList := [27, 3] } { toList := [27] } false), eqk := none } := by kernel_rfl
@[simp] theorem TT_48 : TT 48 = some { size := 1, agg := false, zero := [Value.nilFunc], kind := TK.plain (TypeDesc.func { toList := [3] } { toList := [27] } false), eqk := none } := by kernel_rfl
@[simp] theorem TT_49 : TT 49 = some { size := 1, agg := false, zero := [Value.nilFunc], kind := TK.plain (TypeDesc.func { toList := [34, 27] } { toList := [27] } false), eqk := none } := by kernel_rfl
@[simp] theorem TT_51 : TT 51 = some { size := 1, agg := false, zero := [Value.nilFunc], kind := TK.plain (TypeDesc.func { toList := [24, 27] } { toList := [27, 4, 31] } false), eqk := none } := by kernel_rfl
@[simp] theorem TT_52 : TT 52 = some { size := 1, agg := false, zero := [Value.nilFunc], kind := TK.plain (TypeDesc.func { toList := [3] } { toList := [24] } false), eqk := none } := by kernel_rfl
@[simp] theorem TT_53 : TT 53 = some { size := 1, agg := false, zero := [Value.nilFunc], kind := TK.plain (TypeDesc.func { toList := [27, 3] } { toList := [4] } false), eqk := none } := by kernel_rfl
@[simp] theorem TT_54 : TT 54 = some { size := 1, agg := false, zero := [Value.nilFunc], kind := TK.plain (TypeDesc.func { toList := [5, 27] } { toList := [4] } false), eqk := none } := by kernel_rfl
@[simp] theorem TT_55 : TT 55 = some { size := 1, agg := false, zero := [Value.nilFunc], kind := TK.plain (TypeDesc.func { toList := [] } { toList := [24] } false), eqk := none } := by kernel_rfl
@[simp] theorem TT_56 : TT 56 = some { size := 3, agg := true, zero := [Value.int IntKind.i64 0, Value.int IntKind.i64 0, Value.slice none 0 0], kind := TK.strct [(0, 1, false), (1, 1, false), (2, 1, false)], eqk := none } := by kernel_rfl
@[simp] theorem TT_57 : TT 57 = some { size := 3, agg := true, zero := [Value.int IntKind.i64 0, Value.int IntKind.i64 0, Value.slice none 0 0], kind := TK.strct [(0, 1, false), (1, 1, false), (2, 1, false)], eqk := none } := by kernel_rfl
@[simp] theorem TT_58 : TT 58 = some { size := 1, agg := false, zero := [Value.nilFunc], kind := TK.plain (TypeDesc.func { toList := [27, 27] } { toList := [4] } false), eqk := none } := by kernel_rfl
@[simp] theorem TT_59 : TT 59 = some { size := 1, agg := false, zero := [Value.nilFunc], kind := TK.plain (TypeDesc.func { toList := [24] } { toList := [4] } false), eqk := none } := by kernel_rfl
@[simp] theorem TT_60 : TT 60 = some { size := 1, agg := false, zero := [Value.nilFunc], kind := TK.plain (TypeDesc.func { toList := [27] } { toList := [3] } false), eqk := none } := by kernel_rfl
@[simp] theorem TT_61 : TT 61 = some { size := 1, agg := false, zero := [Value.nilFunc], kind := TK.plain (TypeDesc.func { toList := [24] } { toList := [27] } false), eqk := none } := by kernel_rfl
@[simp] theorem TT_62 : TT 62 = some { size := 1, agg := false, zero := [Value.pointer none], kind := TK.plain (TypeDesc.pointer 68), eqk := none } := by kernel_rfl
@[simp] theorem TT_64 : TT 64 = some { size := 1, agg := false, zero := [Value.nilFunc], kind := TK.plain (TypeDesc.func { toList := [24, 27] } { toList := [62, 3, 31] } false), eqk := none } := by kernel_rfl
@[simp] theorem TT_65 : TT 65 = some { size := 1, agg := false, zero := [Value.slice none 0 0], kind := TK.slice 4 1 1 [Value.bool false], eqk := none } := by kernel_rfl
@[simp] theorem TT_66 : TT 66 = some { size := 1, agg := false, zero := [Value.nilFunc], kind := TK.plain (TypeDesc.func { toList := [3] } { toList := [65] } false), eqk := none } := by kernel_rfl
@[simp] theorem TT_67 : TT 67 = some { size := 3, agg := true, zero := [Value.int IntKind.i64 0, Value.slice none 0 0, Value.slice none 0 0], kind := TK.strct [(0, 1, false), (1, 1, false), (2, 1, false)], eqk := none } := by kernel_rfl
@[simp] theorem TT_68 : TT 68 = some { size := 3, agg := true, zero := [Value.int IntKind.i64 0, Value.slice none 0 0, Value.slice none 0 0], kind := TK.strct [(0, 1, false), (1, 1, false), (2, 1, false)], eqk := none } := by kernel_rfl
@[simp] theorem TT_69 : TT 69 = some { size := 1, agg := false, zero := [Value.int IntKind.u64 0], kind := TK.plain (TypeDesc.int IntKind.u64), eqk := none } := by kernel_rfl
@[simp] theorem TT_70 : TT 70 = some { size := 1, agg := false, zero := [Value.nilFunc], kind := TK.plain (TypeDesc.func { toList := [3, 3] } { toList := [34] } false), eqk := none } := by kernel_rfl
@[simp] theorem TT_71 : TT 71 = some { size := 1, agg := false, zero := [Value.nilFunc], kind := TK.plain (TypeDesc.func { toList := [30, 72] } { toList := [] } false), eqk := none } := by kernel_rfl
@[simp] theorem TT_72 : TT 72 = some { size := 1, agg := false, zero := [Value.nilFunc], kind := TK.plain (TypeDesc.func { toList := [34, 34] } { toList := [3] } false), eqk := none } := by kernel_rfl
@[simp] theorem TT_73 : TT 73 = some { size := 1, agg := false, zero := [Value.nilFunc], kind := TK.plain (TypeDesc.func { toList := [24, 27] } { toList := [31] } false), eqk := none } := by kernel_rfl
@[simp] theorem TT_74 : TT 74 = some { size := 1, agg := false, zero := [Value.slice none 0 0], kind := TK.slice 27 2 16 [Value.int IntKind.u64 0, Value.int IntKind.u64 0], eqk := none } := by kernel_rfl
@[simp] theorem TT_75 : TT 75 = some { size := 1, agg := false, zero := [Value.nilFunc], kind := TK.plain (TypeDesc.func { toList := [27] } { toList := [74] } false), eqk := none } := by kernel_rfl
@[simp] theorem TT_76 : TT 76 = some { size := 1, agg := false, zero := [Value.nilFunc], kind := TK.plain (TypeDesc.func { toList := [30, 34] } { toList := [30] } false), eqk := none } := by kernel_rfl
@[simp] theorem TT_77 : TT 77 = some { size := 1, agg := false, zero := [Value.nilFunc], kind := TK.plain (TypeDesc.func { toList := [27, 27] } { toList := [34] } false), eqk := none } := by kernel_rfl
@[simp] theorem TT_79 : TT 79 = some { size := 1, agg := false, zero := [Value.nilFunc], kind := TK.plain (TypeDesc.func { toList := [3] } { toList := [3, 25, 4] } false), eqk := none } := by kernel_rfl
@[simp] theorem TT_80 : TT 80 = some { size := 1, agg := false, zero := [Value.nilFunc], kind := TK.plain (TypeDesc.func { toList := [24] } { toList := [31] } false), eqk := none } := by kernel_rfl
@[simp] theorem TT_81 : TT 81 = some { size := 1, agg := false, zero := [Value.nilFunc], kind := TK.plain (TypeDesc.func { toList := [34, 82] } { toList := [4] } false), eqk := none } := by kernel_rfl
@[simp] theorem TT_82 : TT 82 = some { size := 1, agg := false, zero := [Value.nilFunc], kind := TK.plain (TypeDesc.func { toList := [3] } { toList := [4] } false), eqk := none } := by kernel_rfl
@[simp] theorem TT_84 : TT 84 = some { size := 1, agg := false, zero := [Value.nilFunc], kind := TK.plain (TypeDesc.func { toList := [24] } { toList := [62, 31] } false), eqk := none } := by kernel_rfl
@[simp] theorem TT_85 : TT 85 = some { size := 1, agg := false, zero := [Value.slice none 0 0], kind := TK.slice 86 2 2 [Value.bool false, Value.bool false], eqk := none } := by kernel_rfl
@[simp] theorem TT_86 : TT 86 = some { size := 2, agg := true, zero := [Value.bool false, Value.bool false], kind := TK.arr 2 1 false, eqk := some false } := by kernel_rfl
@[simp] theorem TT_87 : TT 87 = some { size := 1, agg := false, zero := [Value.nilFunc], kind := TK.plain (TypeDesc.func { toList := [25] } { toList := [25] } false), eqk := none } := by kernel_rfl
@[simp] theorem TT_88 : TT 88 = some { size := 1, agg := false, zero := [Value.nilFunc], kind := TK.plain (TypeDesc.func { toList := [34, 82] } { toList := [34] } false), eqk := none } := by kernel_rfl
@[simp] theorem TT_89 : TT 89 = some { size := 1, agg := false, zero := [Value.nilFunc], kind := TK.plain (TypeDesc.func { toList := [3] } { toList := [57] } false), eqk := none } := by kernel_rfl
@[simp] theorem TT_90 : TT 90 = some { size := 1, agg := false, zero := [Value.nilFunc], kind := TK.plain (TypeDesc.func { toList := [57, 3, 3] } { toList := [4] } false), eqk := none } := by kernel_rfl
@[simp] theorem TT_91 : TT 91 = some { size := 1, agg := false, zero := [Value.nilFunc], kind := TK.plain (TypeDesc.func { toList := [27] } { toList := [34] } false), eqk := none } := by kernel_rfl
@[simp] theorem TT_92 : TT 92 = some { size := 1, agg := false, zero := [Value.nilFunc], kind := TK.plain (TypeDesc.func { toList := [24] } { toList := [74] } false), eqk := none } := by kernel_rfl
@[simp] theorem TT_93 : TT 93 = some { size := 1, agg := false, zero := [Value.nilFunc], kind := TK.plain (TypeDesc.func { toList := [3] } { toList := [] } false), eqk := none } := by kernel_rfl
@[simp] theorem TT_94 : TT 94 = some { size := 1, agg := false, zero := [Value.nilFunc], kind := TK.plain (TypeDesc.func { toList := [30, 3, 3, 3, 72] } { toList := [] } false), eqk := none } := by kernel_rfl
@[simp] theorem TT_95 : TT 95 = some { size := 1, agg := false, zero := [Value.nilFunc], kind := TK.plain (TypeDesc.func { toList := [69] } { toList := [3] } false), eqk := none } := by kernel_rfl
@[simp] theorem TT_96 : TT 96 = some { size := 1, agg := false, zero := [Value.nilFunc], kind := TK.plain (TypeDesc.func { toList := [34, 34, 97] } { toList := [3] } false), eqk := none } := by kernel_rfl
@[simp] theorem TT_97 : TT 97 = some { size := 1, agg := false, zero := [Value.nilFunc], kind := TK.plain (TypeDesc.func { toList := [3, 3] } { toList := [3] } false), eqk := none } := by kernel_rfl
@[simp] theorem TT_98 : TT 98 = some { size := 1, agg := false, zero := [Value.nilFunc], kind := TK.plain (TypeDesc.func { toList := [3] } { toList := [3] } false), eqk := none } := by kernel_rfl
@[simp] theorem TT_99 : TT 99 = some { size := 1, agg := false, zero := [Value.nilFunc], kind := TK.plain (TypeDesc.func { toList := [34, 82] } { toList := [3] } false), eqk := none } := by kernel_rfl
@[simp] theorem TT_100 : TT 100 = some { size := 1, agg := false, zero := [Value.nilFunc], kind := TK.plain (TypeDesc.func { toList := [27, 27, 27] } { toList := [27] } false), eqk := none } := by kernel_rfl
@[simp] theorem TT_101 : TT 101 = some { size := 1, agg := false, zero := [Value.nilFunc], kind := TK.plain (TypeDesc.func { toList := [] } { toList := [65] } false), eqk := none } := by kernel_rfl
@[simp] theorem TT_102 : TT 102 = some { size := 1, agg := false, zero := [Value.nilFunc], kind := TK.plain (TypeDesc.func { toList := [65] } { toList := [27] } false), eqk := none } := by kernel_rfl
@[simp] theorem TT_103 : TT 103 = some { size := 1, agg := false, zero := [Value.nilFunc], kind := TK.plain (TypeDesc.func { toList := [24, 3] } { toList := [25] } false), eqk := none } := by kernel_rfl
@[simp] theorem TT_104 : TT 104 = some { size := 1, agg := false, zero := [Value.nilFunc], kind := TK.plain (TypeDesc.func { toList := [82] } { toList := [] } false), eqk := none } := by kernel_rfl
@[simp] theorem TT_105 : TT 105 = some { size := 1, agg := false, zero := [Value.nilFunc], kind := TK.plain (TypeDesc.func { toList := [82] } { toList := [] } false), eqk := none } := by kernel_rfl
@[simp] theorem TT_106 : TT 106 = some { size := 1, agg := false, zero := [Value.nilFunc], kind := TK.plain (TypeDesc.func { toList := [27] } { toList := [105] } false), eqk := none } := by kernel_rfl
@[simp] theorem TT_107 : TT 107 = some { size := 1, agg := false, zero := [Value.nilFunc], kind := TK.plain (TypeDesc.func { toList := [3, 3] } { toList := [4] } false), eqk := none } := by kernel_rfl
@[simp] theorem TT_108 : TT 108 = some { size := 1, agg := false, zero := [Value.nilFunc], kind := TK.plain (TypeDesc.func { toList := [30, 3, 3, 72] } { toList := [] } false), eqk := none } := by kernel_rfl
@[simp] theorem TT_109 : TT 109 = some { size := 1, agg := false, zero := [Value.int IntKind.i64 0], kind := TK.plain (TypeDesc.int IntKind.i64), eqk := none } := by kernel_rfl
@[simp] theorem TT_111 : TT 111 = some { size := 1, agg := false, zero := [Value.nilFunc], kind := TK.plain (TypeDesc.func { toList := [30, 3, 3, 72] } { toList := [3, 109] } false), eqk := none } := by kernel_rfl
@[simp] theorem TT_112 : TT 112 = some { size := 1, agg := false, zero := [Value.nilFunc], kind := TK.plain (TypeDesc.func { toList := [30, 3, 3, 72] } { toList := [4] } false), eqk := none } := by kernel_rfl
@[simp] theorem TT_113 : TT 113 = some { size := 1, agg := false, zero := [Value.nilFunc], kind := TK.plain (TypeDesc.func { toList := [30, 3, 3, 3, 72] } { toList := [3] } false), eqk := none } := by kernel_rfl
@[simp] theorem TT_115 : TT 115 = some { size := 1, agg := false, zero := [Value.nilFunc], kind := TK.plain (TypeDesc.func { toList := [30, 3, 3, 3, 72] } { toList := [3, 4] } false), eqk := none } := by kernel_rfl
@[simp] theorem TT_116 : TT 116 = some { size := 1, agg := false, zero := [Value.nilFunc], kind := TK.plain (TypeDesc.func { toList := [117] } { toList := [3] } false), eqk := none } := by kernel_rfl
@[simp] theorem TT_117 : TT 117 = some { size := 1, agg := false, zero := [Value.int IntKind.u32 0], kind := TK.plain (TypeDesc.int IntKind.u32), eqk := none } := by kernel_rfl
@[simp] theorem TT_118 : TT 118 = some { size := 1, agg := false, zero := [Value.nilFunc], kind := TK.plain (TypeDesc.func { toList := [25] } { toList := [3] } false), eqk := none } := by kernel_rfl
@[simp] theorem TT_119 : TT 119 = some { size := 1, agg := false, zero := [Value.nilFunc], kind := TK.plain (TypeDesc.func { toList := [34] } { toList := [27] } false), eqk := none } := by kernel_rfl
@[simp] theorem TT_120 : TT 120 = some { size := 1, agg := false, zero := [Value.nilFunc], kind := TK.plain (TypeDesc.func { toList := [24, 27] } { toList := [65] } false), eqk := none } := by kernel_rfl
@[simp] theorem TT_121 : TT 121 = some { size := 1, agg := false, zero := [Value.nilFunc], kind := TK.plain (TypeDesc.func { toList := [105] } { toList := [34] } false), eqk := none } := by kernel_rfl
@[simp] theorem TT_122 : TT 122 = some { size := 6, agg := true, zero := [Value.int IntKind.u64 0, Value.int IntKind.u64 0, Value.int IntKind.u64 0, Value.int IntKind.u64 0, Value.int IntKind.u64 0, Value.int IntKind.u64 0], kind := TK.arr 6 1 false, eqk := some true } := by kernel_rfl
@[simp] theorem TT_123 : TT 123 = some { size := 1, agg := false, zero := [Value.map none], kind := TK.plain (TypeDesc.map 3 25), eqk := none } := by kernel_rfl
@[simp] theorem TT_124 : TT 124 = some { size := 1, agg := false, zero := [Value.slice none 0 0], kind := TK.slice 25 1 8 [Value.int IntKind.u64 0], eqk := none } := by kernel_rfl
@[simp] theorem TT_125 : TT 125 = some { size := 1, agg := false, zero := [Value.int IntKind.u64 0], kind := TK.plain (TypeDesc.int IntKind.u64), eqk := none } := by kernel_rfl
@[simp] theorem TT_126 : TT 126 = some { size := 1, agg := false, zero := [Value.nilFunc], kind := TK.plain (TypeDesc.func { toList := [3] } { toList := [69] } false), eqk := none } := by kernel_rfl
@[simp] theorem TT_127 : TT 127 = some { size := 1, agg := false, zero := [Value.nilFunc], kind := TK.plain (TypeDesc.func { toList := [] } { toList := [25] } false), eqk := none } := by kernel_rfl
@[simp] theorem TT_128 : TT 128 = some { size := 1, agg := false, zero := [Value.nilFunc], kind := TK.plain (TypeDesc.func { toList := [30, 3, 129, 72] } { toList := [3] } false), eqk := none } := by kernel_rfl
@[simp] theorem TT_129 : TT 129 = some { size := 1, agg := false, zero := [Value.pointer none], kind := TK.plain (TypeDesc.pointer 3), eqk := none } := by kernel_rfl
@[simp] theorem TT_130 : TT 130 = some { size := 1, agg := false, zero := [Value.nilFunc], kind := TK.plain (TypeDesc.func { toList := [30, 3, 3, 3, 129, 72] } { toList := [3] } false), eqk := none } := by kernel_rfl
@[simp] theorem TT_131 : TT 131 = some { size := 1, agg := false, zero := [Value.nilFunc], kind := TK.plain (TypeDesc.func { toList := [34, 105] } { toList := [34] } false), eqk := none } := by kernel_rfl
@[simp] theorem TT_132 : TT 132 = some { size := 64, agg := true, zero := [Value.int IntKind.u8 0, Value.int IntKind.u8 0, Value.int IntKind.u8 0, Value.int IntKind.u8 0, Value.int IntKind.u8 0, Value.int IntKind.u8 0, Value.int IntKind.u8 0, Value.int IntKind.u8 0, Value.int IntKind.u8 0, Value.int IntKind.u8 0, Value.int IntKind.u8 0, Value.int IntKind.u8 0, Value.int IntKind.u8 0, Value.int IntKind.u8 0, Value.int IntKind.u8 0, Value.int IntKind.u8 0, Value.int IntKind.u8 0, Value.int IntKind.u8 0, Value.int IntKind.u8 0, Value.int IntKind.u8 0, Value.int IntKind.u8 0, Value.int IntKind.u8 0, Value.int IntKind.u8 0, Value.int IntKind.u8 0, Value.int IntKind.u8 0, Value.int IntKind.u8 0, Value.int IntKind.u8 0, Value.int IntKind.u8 0, Value.int IntKind.u8 0, Value.int IntKind.u8 0, Value.int IntKind.u8 0, Value.int IntKind.u8 0, Value.int IntKind.u8 0, Value.int IntKind.u8 0, Value.int IntKind.u8 0, Value.int IntKind.u8 0, Value.int IntKind.u8 0, Value.int IntKind.u8 0, Value.int IntKind.u8 0, Value.int IntKind.u8 0, Value.int IntKind.u8 0, Value.int IntKind.u8 0, Value.int IntKind.u8 0, Value.int IntKind.u8 0, Value.int IntKind.u8 0, Value.int IntKind.u8 0, Value.int IntKind.u8 0, Value.int IntKind.u8 0, Value.int IntKind.u8 0, Value.int IntKind.u8 0, Value.int IntKind.u8 0, Value.int IntKind.u8 0, Value.int IntKind.u8 0, Value.int IntKind.u8 0, Value.int IntKind.u8 0, Value.int IntKind.u8 0, Value.int IntKind.u8 0, Value.int IntKind.u8 0, Value.int IntKind.u8 0, Value.int IntKind.u8 0, Value.int IntKind.u8 0, Value.int IntKind.u8 0, Value.int IntKind.u8 0, Value.int IntKind.u8 0], kind := TK.arr 64 1 false, eqk := some true } := by kernel_rfl
@[simp] theorem TT_133 : TT 133 = some { size := 1, agg := false, zero := [Value.pointer none], kind := TK.plain (TypeDesc.pointer 125), eqk := none } := by kernel_rfl
@[simp] theorem TT_135 : TT 135 = some { size := 1, agg := false, zero := [Value.nilFunc], kind := TK.plain (TypeDesc.func { toList := [30, 3, 3, 129, 72] } { toList := [3, 3] } false), eqk := none } := by kernel_rfl
@[simp] theorem TT_136 : TT 136 = some { size := 1, agg := false, zero := [Value.nilFunc], kind := TK.plain (TypeDesc.func { toList := [] } { toList := [9] } false), eqk := none } := by kernel_rfl
@[simp] theorem TT_142 : TT 142 = some { size := 1, agg := false, zero := [Value.nilFunc], kind := TK.plain (TypeDesc.func { toList := [] } { toList := [3] } false), eqk := none } := by kernel_rfl
@[simp] theorem TT_145 : TT 145 = some { size := 1, agg := false, zero := [Value.nilFunc], kind := TK.plain (TypeDesc.func { toList := [151, 151] } { toList := [4] } false), eqk := none } := by kernel_rfl
@[simp] theorem TT_146 : TT 146 = some { size := 1, agg := false, zero := [Value.pointer none], kind := TK.plain (TypeDesc.pointer 5), eqk := none } := by kernel_rfl
@[simp] theorem TT_151 : TT 151 = some { size := 1, agg := false, zero := [Value.pointer none], kind := TK.plain TypeDesc.unsafePointer, eqk := none } := by kernel_rfl
theorem TTl_all : TTl.map (fun p => mkTI Tryd.prog p.1) = TTl.map (fun p => some p.2) := by kernel_rfl
theorem TTl_ok : ∀ p ∈ TTl, mkTI Tryd.prog p.1 = some p.2 := fun p hp => List.map_inj_left.1 TTl_all p hp
theorem TT_ok : TTok Tryd.prog TT := fun _ _ h => mkTI_ok (TTl_ok _ (mem_lk h))
end Go.Proofs.YtecdhmiamlgibaaDoor
