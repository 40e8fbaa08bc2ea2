/- What the abstract machine knows of the types; no condition. -/
import Derived.Test.YtafikekndefjcaaDoorProg
import Derived.Test.YtafikekndefjcaaDoorAmA
namespace Go.Proofs.YtafikekndefjcaaDoor
open Go.RowKit
set_option maxRecDepth 100000
def TTl : List (Nat × TI) := [
  (1, ⟨1, false, [.nilFunc], .plain (.func ⟨[]⟩ ⟨[]⟩ false), none⟩),
  (2, ⟨1, false, [.int .i64 0], .plain (.int .i64), none⟩),
  (3, ⟨1, false, [.int .i64 0], .plain (.int .i64), none⟩),
  (4, ⟨1, false, [.bool false], .plain .bool, none⟩),
  (5, ⟨1, false, [.int .u8 0], .plain (.int .u8), none⟩),
  (9, ⟨1, false, [.string ⟨⟨[]⟩⟩], .plain .string, none⟩),
  (12, ⟨1, false, [.int .u64 0], .plain (.int .u64), none⟩),
  (20, ⟨1, false, [.nilIface], .plain (.interface ⟨[]⟩), none⟩),
  (21, ⟨1, false, [.int .i32 0], .plain (.int .i32), none⟩),
  (22, ⟨1, false, [.slice none 0 0], .slice 28 1 24 [.slice none 0 0], none⟩),
  (23, ⟨2, true, [.int .i64 0, .slice none 0 0], .strct [(0, 1, false), (1, 1, false)], none⟩),
  (24, ⟨2, true, [.int .i64 0, .slice none 0 0], .strct [(0, 1, false), (1, 1, false)], none⟩),
  (25, ⟨1, false, [.nilFunc], .plain (.func ⟨[24]⟩ ⟨[4]⟩ false), none⟩),
  (26, ⟨1, false, [.nilFunc], .plain (.func ⟨[]⟩ ⟨[4]⟩ false), none⟩),
  (27, ⟨1, false, [.nilFunc], .plain (.func ⟨[24]⟩ ⟨[24]⟩ false), none⟩),
  (28, ⟨1, false, [.slice none 0 0], .slice 3 1 8 [.int .i64 0], none⟩),
  (29, ⟨1, false, [.int .i64 0], .plain (.int .i64), none⟩),
  (31, ⟨1, false, [.nilFunc], .plain (.func ⟨[24]⟩ ⟨[24, 28, 29]⟩ false), none⟩),
  (32, ⟨1, false, [.nilFunc], .plain (.func ⟨[24, 24]⟩ ⟨[4]⟩ false), none⟩),
  (33, ⟨1, false, [.nilFunc], .plain (.func ⟨[28, 28]⟩ ⟨[4]⟩ false), none⟩),
  (34, ⟨1, false, [.slice none 0 0], .slice 5 1 1 [.int .u8 0], none⟩),
  (36, ⟨1, false, [.nilFunc], .plain (.func ⟨[24]⟩ ⟨[34, 29]⟩ false), none⟩),
  (37, ⟨1, false, [.nilFunc], .plain (.func ⟨[34, 34]⟩ ⟨[4]⟩ false), none⟩),
  (38, ⟨1, false, [.nilFunc], .plain (.func ⟨[24, 3]⟩ ⟨[24]⟩ false), none⟩),
  (39, ⟨1, false, [.nilFunc], .plain (.func ⟨[24, 24, 5, 5]⟩ ⟨[4]⟩ false), none⟩),
  (40, ⟨1, false, [.nilFunc], .plain (.func ⟨[24, 5, 34, 5]⟩ ⟨[4]⟩ false), none⟩),
  (41, ⟨1, false, [.int .u64 0], .plain (.int .u64), none⟩),
  (42, ⟨1, false, [.int .u64 0], .plain (.int .u64), none⟩),
  (43, ⟨1, false, [.nilFunc], .plain (.func ⟨[24, 45]⟩ ⟨[4]⟩ false), none⟩),
  (44, ⟨2, true, [.int .u64 0, .int .u64 0], .arr 2 1 false, some true⟩),
  (45, ⟨2, true, [.int .u64 0, .int .u64 0], .arr 2 1 false, some true⟩),
  (46, ⟨1, false, [.nilFunc], .plain (.func ⟨[24, 5]⟩ ⟨[4]⟩ false), none⟩),
  (47, ⟨1, false, [.slice none 0 0], .slice 57 3 40 [.int .u8 0, .slice none 0 0, .int .i64 0], none⟩),
  (48, ⟨1, false, [.pointer none], .plain (.pointer 73), none⟩),
  (50, ⟨1, false, [.nilFunc], .plain (.func ⟨[3]⟩ ⟨[48, 29]⟩ false), none⟩),
  (51, ⟨1, false, [.slice none 0 0], .slice 96 2 24 [.string ⟨⟨[]⟩⟩, .int .i64 0], none⟩),
  (52, ⟨2, true, [.int .i64 0, .slice none 0 0], .strct [(0, 1, false), (1, 1, false)], none⟩),
  (53, ⟨2, true, [.int .i64 0, .slice none 0 0], .strct [(0, 1, false), (1, 1, false)], none⟩),
  (55, ⟨1, false, [.nilFunc], .plain (.func ⟨[3]⟩ ⟨[53, 29]⟩ false), none⟩),
  (56, ⟨3, true, [.int .u8 0, .slice none 0 0, .int .i64 0], .strct [(0, 1, false), (1, 1, false), (2, 1, false)], none⟩),
  (57, ⟨3, true, [.int .u8 0, .slice none 0 0, .int .i64 0], .strct [(0, 1, false), (1, 1, false), (2, 1, false)], none⟩),
  (58, ⟨1, false, [.nilFunc], .plain (.func ⟨[34, 3]⟩ ⟨[29]⟩ false), none⟩),
  (59, ⟨1, false, [.nilFunc], .plain (.func ⟨[9, 3]⟩ ⟨[29]⟩ false), none⟩),
  (61, ⟨1, false, [.nilFunc], .plain (.func ⟨[34]⟩ ⟨[3, 4]⟩ false), none⟩),
  (62, ⟨1, false, [.nilFunc], .plain (.func ⟨[9]⟩ ⟨[3, 4]⟩ false), none⟩),
  (63, ⟨1, false, [.nilFunc], .plain (.func ⟨[]⟩ ⟨[3]⟩ false), none⟩),
  (64, ⟨1, false, [.nilFunc], .plain (.func ⟨[3, 47]⟩ ⟨[4]⟩ false), none⟩),
  (65, ⟨1, false, [.int .u16 0], .plain (.int .u16), none⟩),
  (66, ⟨1, false, [.nilFunc], .plain (.func ⟨[3]⟩ ⟨[34]⟩ false), none⟩),
  (67, ⟨1, false, [.nilFunc], .plain (.func ⟨[65, 34]⟩ ⟨[4]⟩ false), none⟩),
  (68, ⟨1, false, [.map none], .plain (.map 5 3), none⟩),
  (69, ⟨1, false, [.nilFunc], .plain (.func ⟨[34, 65]⟩ ⟨[4]⟩ false), none⟩),
  (70, ⟨1, false, [.map none], .plain (.map 9 71), none⟩),
  (71, ⟨1, false, [.pointer none], .plain (.pointer 91), none⟩),
  (72, ⟨4, true, [.int .i64 0, .int .i64 0, .map none, .pointer none], .strct [(0, 1, false), (1, 1, false), (2, 1, false), (3, 1, false)], none⟩),
  (73, ⟨4, true, [.int .i64 0, .int .i64 0, .map none, .pointer none], .strct [(0, 1, false), (1, 1, false), (2, 1, false), (3, 1, false)], none⟩),
  (74, ⟨1, false, [.slice none 0 0], .slice 48 1 8 [.pointer none], none⟩),
  (75, ⟨1, false, [.nilFunc], .plain (.func ⟨[34, 3, 3]⟩ ⟨[4]⟩ false), none⟩),
  (76, ⟨1, false, [.nilFunc], .plain (.func ⟨[]⟩ ⟨[24]⟩ false), none⟩),
  (78, ⟨1, false, [.nilFunc], .plain (.func ⟨[24]⟩ ⟨[24, 29]⟩ false), none⟩),
  (79, ⟨1, false, [.nilFunc], .plain (.func ⟨[45]⟩ ⟨[28]⟩ false), none⟩),
  (80, ⟨1, false, [.nilFunc], .plain (.func ⟨[24]⟩ ⟨[45]⟩ false), none⟩),
  (81, ⟨129, true, [.int .i64 0, .int .i64 0, .int .i64 0, .int .i64 0, .int .i64 0, .int .i64 0, .int .i64 0, .int .i64 0, .int .i64 0, .int .i64 0, .int .i64 0, .int .i64 0, .int .i64 0, .int .i64 0, .int .i64 0, .int .i64 0, .int .i64 0, .int .i64 0, .int .i64 0, .int .i64 0, .int .i64 0, .int .i64 0, .int .i64 0, .int .i64 0, .int .i64 0, .int .i64 0, .int .i64 0, .int .i64 0, .int .i64 0, .int .i64 0, .int .i64 0, .int .i64 0, .int .i64 0, .int .i64 0, .int .i64 0, .int .i64 0, .int .i64 0, .int .i64 0, .int .i64 0, .int .i64 0, .int .i64 0, .int .i64 0, .int .i64 0, .int .i64 0, .int .i64 0, .int .i64 0, .int .i64 0, .int .i64 0, .int .i64 0, .int .i64 0, .int .i64 0, .int .i64 0, .int .i64 0, .int .i64 0, .int .i64 0, .int .i64 0, .int .i64 0, .int .i64 0, .int .i64 0, .int .i64 0, .int .i64 0, .int .i64 0, .int .i64 0, .int .i64 0, .int .i64 0, .int .i64 0, .int .i64 0, .int .i64 0, .int .i64 0, .int .i64 0, .int .i64 0, .int .i64 0, .int .i64 0, .int .i64 0, .int .i64 0, .int .i64 0, .int .i64 0, .int .i64 0, .int .i64 0, .int .i64 0, .int .i64 0, .int .i64 0, .int .i64 0, .int .i64 0, .int .i64 0, .int .i64 0, .int .i64 0, .int .i64 0, .int .i64 0, .int .i64 0, .int .i64 0, .int .i64 0, .int .i64 0, .int .i64 0, .int .i64 0, .int .i64 0, .int .i64 0, .int .i64 0, .int .i64 0, .int .i64 0, .int .i64 0, .int .i64 0, .int .i64 0, .int .i64 0, .int .i64 0, .int .i64 0, .int .i64 0, .int .i64 0, .int .i64 0, .int .i64 0, .int .i64 0, .int .i64 0, .int .i64 0, .int .i64 0, .int .i64 0, .int .i64 0, .int .i64 0, .int .i64 0, .int .i64 0, .int .i64 0, .int .i64 0, .int .i64 0, .int .i64 0, .int .i64 0, .int .i64 0, .int .i64 0, .int .i64 0, .int .i64 0, .int .i64 0], .arr 129 1 false, some true⟩),
  (82, ⟨1, false, [.nilFunc], .plain (.func ⟨[3]⟩ ⟨[3]⟩ false), none⟩),
  (83, ⟨1, false, [.nilFunc], .plain (.func ⟨[45, 3]⟩ ⟨[4]⟩ false), none⟩),
  (84, ⟨1, false, [.nilFunc], .plain (.func ⟨[24]⟩ ⟨[29]⟩ false), none⟩),
  (85, ⟨1, false, [.nilFunc], .plain (.func ⟨[45, 45]⟩ ⟨[4]⟩ false), none⟩),
  (86, ⟨1, false, [.nilFunc], .plain (.func ⟨[3]⟩ ⟨[45]⟩ false), none⟩),
  (87, ⟨1, false, [.nilFunc], .plain (.func ⟨[45, 28]⟩ ⟨[4]⟩ false), none⟩),
  (88, ⟨2, true, [.string ⟨⟨[]⟩⟩, .int .i64 0], .strct [(0, 1, false), (1, 1, false)], none⟩),
  (89, ⟨2, true, [.string ⟨⟨[]⟩⟩, .int .i64 0], .strct [(0, 1, false), (1, 1, false)], none⟩),
  (90, ⟨4, true, [.pointer none, .pointer none, .string ⟨⟨[]⟩⟩, .int .i64 0], .strct [(0, 1, false), (1, 1, false), (2, 2, true)], none⟩),
  (91, ⟨4, true, [.pointer none, .pointer none, .string ⟨⟨[]⟩⟩, .int .i64 0], .strct [(0, 1, false), (1, 1, false), (2, 2, true)], none⟩),
  (93, ⟨1, false, [.nilFunc], .plain (.func ⟨[71]⟩ ⟨[]⟩ false), none⟩),
  (94, ⟨1, false, [.pointer none], .plain (.pointer 53), none⟩),
  (95, ⟨2, true, [.string ⟨⟨[]⟩⟩, .int .i64 0], .strct [(0, 1, false), (1, 1, false)], none⟩),
  (96, ⟨2, true, [.string ⟨⟨[]⟩⟩, .int .i64 0], .strct [(0, 1, false), (1, 1, false)], none⟩),
  (97, ⟨1, false, [.nilFunc], .plain (.func ⟨[51]⟩ ⟨[3]⟩ false), none⟩),
  (99, ⟨1, false, [.nilFunc], .plain (.func ⟨[28, 3]⟩ ⟨[28, 4, 29]⟩ false), none⟩),
  (100, ⟨1, false, [.nilFunc], .plain (.func ⟨[22, 101]⟩ ⟨[]⟩ false), none⟩),
  (101, ⟨1, false, [.nilFunc], .plain (.func ⟨[28, 28]⟩ ⟨[3]⟩ false), none⟩),
  (102, ⟨1, false, [.nilFunc], .plain (.func ⟨[22, 33]⟩ ⟨[22]⟩ false), none⟩),
  (103, ⟨1, false, [.nilFunc], .plain (.func ⟨[105]⟩ ⟨[28]⟩ false), none⟩),
  (104, ⟨1, false, [.nilFunc], .plain (.func ⟨[114]⟩ ⟨[]⟩ false), none⟩),
  (105, ⟨1, false, [.nilFunc], .plain (.func ⟨[114]⟩ ⟨[]⟩ false), none⟩),
  (106, ⟨1, false, [.nilFunc], .plain (.func ⟨[45]⟩ ⟨[105]⟩ false), none⟩),
  (107, ⟨1, false, [.nilFunc], .plain (.func ⟨[45, 3]⟩ ⟨[45]⟩ false), none⟩),
  (109, ⟨1, false, [.nilFunc], .plain (.func ⟨[28, 3]⟩ ⟨[28, 4]⟩ false), none⟩),
  (110, ⟨1, false, [.nilFunc], .plain (.func ⟨[22, 28]⟩ ⟨[22]⟩ false), none⟩),
  (111, ⟨1, false, [.nilFunc], .plain (.func ⟨[3, 3]⟩ ⟨[4]⟩ false), none⟩),
  (112, ⟨1, false, [.nilFunc], .plain (.func ⟨[45, 45]⟩ ⟨[45]⟩ false), none⟩),
  (113, ⟨1, false, [.nilFunc], .plain (.func ⟨[28, 114]⟩ ⟨[4]⟩ false), none⟩),
  (114, ⟨1, false, [.nilFunc], .plain (.func ⟨[3]⟩ ⟨[4]⟩ false), none⟩),
  (115, ⟨1, false, [.nilFunc], .plain (.func ⟨[28, 3]⟩ ⟨[4]⟩ false), none⟩),
  (116, ⟨1, false, [.nilFunc], .plain (.func ⟨[28]⟩ ⟨[28]⟩ false), none⟩),
  (117, ⟨1, false, [.nilFunc], .plain (.func ⟨[28]⟩ ⟨[4]⟩ false), none⟩),
  (118, ⟨1, false, [.nilFunc], .plain (.func ⟨[22, 3, 3, 3, 101]⟩ ⟨[]⟩ false), none⟩),
  (119, ⟨1, false, [.nilFunc], .plain (.func ⟨[42]⟩ ⟨[3]⟩ false), none⟩),
  (120, ⟨1, false, [.nilFunc], .plain (.func ⟨[28, 105]⟩ ⟨[28]⟩ false), none⟩),
  (121, ⟨1, false, [.nilFunc], .plain (.func ⟨[41]⟩ ⟨[3]⟩ false), none⟩),
  (123, ⟨1, false, [.nilFunc], .plain (.func ⟨[3]⟩ ⟨[3, 41, 4]⟩ false), none⟩),
  (124, ⟨1, false, [.nilFunc], .plain (.func ⟨[28, 114]⟩ ⟨[3]⟩ false), none⟩),
  (125, ⟨1, false, [.nilFunc], .plain (.func ⟨[28, 126]⟩ ⟨[]⟩ false), none⟩),
  (126, ⟨1, false, [.nilFunc], .plain (.func ⟨[3, 3]⟩ ⟨[3]⟩ false), none⟩),
  (127, ⟨1, false, [.nilFunc], .plain (.func ⟨[22, 3, 3, 101]⟩ ⟨[]⟩ false), none⟩),
  (128, ⟨1, false, [.int .i64 0], .plain (.int .i64), none⟩),
  (130, ⟨1, false, [.nilFunc], .plain (.func ⟨[22, 3, 3, 101]⟩ ⟨[3, 128]⟩ false), none⟩),
  (131, ⟨1, false, [.nilFunc], .plain (.func ⟨[22, 3, 3, 101]⟩ ⟨[4]⟩ false), none⟩),
  (132, ⟨1, false, [.nilFunc], .plain (.func ⟨[22, 3, 3, 3, 101]⟩ ⟨[3]⟩ false), none⟩),
  (133, ⟨1, false, [.nilFunc], .plain (.func ⟨[22, 3, 3, 3, 101]⟩ ⟨[3, 4]⟩ false), none⟩),
  (134, ⟨1, false, [.nilFunc], .plain (.func ⟨[135]⟩ ⟨[3]⟩ false), none⟩),
  (135, ⟨1, false, [.int .u32 0], .plain (.int .u32), none⟩),
  (136, ⟨64, true, [.int .u8 0, .int .u8 0, .int .u8 0, .int .u8 0, .int .u8 0, .int .u8 0, .int .u8 0, .int .u8 0, .int .u8 0, .int .u8 0, .int .u8 0, .int .u8 0, .int .u8 0, .int .u8 0, .int .u8 0, .int .u8 0, .int .u8 0, .int .u8 0, .int .u8 0, .int .u8 0, .int .u8 0, .int .u8 0, .int .u8 0, .int .u8 0, .int .u8 0, .int .u8 0, .int .u8 0, .int .u8 0, .int .u8 0, .int .u8 0, .int .u8 0, .int .u8 0, .int .u8 0, .int .u8 0, .int .u8 0, .int .u8 0, .int .u8 0, .int .u8 0, .int .u8 0, .int .u8 0, .int .u8 0, .int .u8 0, .int .u8 0, .int .u8 0, .int .u8 0, .int .u8 0, .int .u8 0, .int .u8 0, .int .u8 0, .int .u8 0, .int .u8 0, .int .u8 0, .int .u8 0, .int .u8 0, .int .u8 0, .int .u8 0, .int .u8 0, .int .u8 0, .int .u8 0, .int .u8 0, .int .u8 0, .int .u8 0, .int .u8 0, .int .u8 0], .arr 64 1 false, some true⟩),
  (137, ⟨1, false, [.nilFunc], .plain (.func ⟨[28, 3, 3, 3, 126]⟩ ⟨[]⟩ false), none⟩),
  (138, ⟨1, false, [.int .u64 0], .plain (.int .u64), none⟩),
  (139, ⟨1, false, [.nilFunc], .plain (.func ⟨[3]⟩ ⟨[42]⟩ false), none⟩),
  (140, ⟨1, false, [.nilFunc], .plain (.func ⟨[]⟩ ⟨[41]⟩ false), none⟩),
  (141, ⟨1, false, [.nilFunc], .plain (.func ⟨[22, 3, 142, 101]⟩ ⟨[3]⟩ false), none⟩),
  (142, ⟨1, false, [.pointer none], .plain (.pointer 3), none⟩),
  (143, ⟨1, false, [.nilFunc], .plain (.func ⟨[22, 3, 3, 3, 142, 101]⟩ ⟨[3]⟩ false), none⟩),
  (144, ⟨1, false, [.nilFunc], .plain (.func ⟨[28, 3, 3, 126]⟩ ⟨[]⟩ false), none⟩),
  (145, ⟨1, false, [.nilFunc], .plain (.func ⟨[28, 3, 3, 126]⟩ ⟨[3, 128]⟩ false), none⟩),
  (146, ⟨1, false, [.nilFunc], .plain (.func ⟨[28, 3, 3, 126]⟩ ⟨[4]⟩ false), none⟩),
  (147, ⟨1, false, [.nilFunc], .plain (.func ⟨[28, 3, 3, 3, 126]⟩ ⟨[3]⟩ false), none⟩),
  (148, ⟨1, false, [.nilFunc], .plain (.func ⟨[28, 3, 3, 3, 126]⟩ ⟨[3, 4]⟩ false), none⟩),
  (149, ⟨1, false, [.pointer none], .plain (.pointer 138), none⟩),
  (151, ⟨1, false, [.nilFunc], .plain (.func ⟨[22, 3, 3, 142, 101]⟩ ⟨[3, 3]⟩ false), none⟩),
  (152, ⟨1, false, [.nilFunc], .plain (.func ⟨[28, 3, 142, 126]⟩ ⟨[3]⟩ false), none⟩),
  (153, ⟨1, false, [.nilFunc], .plain (.func ⟨[28, 3, 3, 3, 142, 126]⟩ ⟨[3]⟩ false), none⟩),
  (154, ⟨1, false, [.nilFunc], .plain (.func ⟨[28, 3, 3, 142, 126]⟩ ⟨[3, 3]⟩ false), none⟩),
  (155, ⟨1, false, [.nilFunc], .plain (.func ⟨[]⟩ ⟨[9]⟩ false), none⟩),
  (163, ⟨1, false, [.nilFunc], .plain (.func ⟨[169, 169]⟩ ⟨[4]⟩ false), none⟩),
  (164, ⟨1, false, [.pointer none], .plain (.pointer 5), none⟩),
  (169, ⟨1, false, [.pointer none], .plain .unsafePointer, none⟩)]
def TT : TTab := fun t => lk TTl t
@[simp] theorem TT_1 : TT 1 = some ⟨1, false, [.nilFunc], .plain (.func ⟨[]⟩ ⟨[]⟩ false), none⟩ := by kernel_rfl
@[simp] theorem TT_2 : TT 2 = some ⟨1, false, [.int .i64 0], .plain (.int .i64), none⟩ := by kernel_rfl
@[simp] theorem TT_3 : TT 3 = some ⟨1, false, [.int .i64 0], .plain (.int .i64), none⟩ := by kernel_rfl
@[simp] theorem TT_4 : TT 4 = some ⟨1, false, [.bool false], .plain .bool, none⟩ := by kernel_rfl
@[simp] theorem TT_5 : TT 5 = some ⟨1, false, [.int .u8 0], .plain (.int .u8), none⟩ := by kernel_rfl
@[simp] theorem TT_9 : TT 9 = some ⟨1, false, [.string ⟨⟨[]⟩⟩], .plain .string, none⟩ := by kernel_rfl
@[simp] theorem TT_12 : TT 12 = some ⟨1, false, [.int .u64 0], .plain (.int .u64), none⟩ := by kernel_rfl
@[simp] theorem TT_20 : TT 20 = some ⟨1, false, [.nilIface], .plain (.interface ⟨[]⟩), none⟩ := by kernel_rfl
@[simp] theorem TT_21 : TT 21 = some ⟨1, false, [.int .i32 0], .plain (.int .i32), none⟩ := by kernel_rfl
@[simp] theorem TT_22 : TT 22 = some ⟨1, false, [.slice none 0 0], .slice 28 1 24 [.slice none 0 0], none⟩ := by kernel_rfl
@[simp] theorem TT_23 : TT 23 = some ⟨2, true, [.int .i64 0, .slice none 0 0], .strct [(0, 1, false), (1, 1, false)], none⟩ := by kernel_rfl
@[simp] theorem TT_24 : TT 24 = some ⟨2, true, [.int .i64 0, .slice none 0 0], .strct [(0, 1, false), (1, 1, false)], none⟩ := by kernel_rfl
@[simp] theorem TT_25 : TT 25 = some ⟨1, false, [.nilFunc], .plain (.func ⟨[24]⟩ ⟨[4]⟩ false), none⟩ := by kernel_rfl
@[simp] theorem TT_26 : TT 26 = some ⟨1, false, [.nilFunc], .plain (.func ⟨[]⟩ ⟨[4]⟩ false), none⟩ := by kernel_rfl
@[simp] theorem TT_27 : TT 27 = some ⟨1, false, [.nilFunc], .plain (.func ⟨[24]⟩ ⟨[24]⟩ false), none⟩ := by kernel_rfl
@[simp] theorem TT_28 : TT 28 = some ⟨1, false, [.slice none 0 0], .slice 3 1 8 [.int .i64 0], none⟩ := by kernel_rfl
@[simp] theorem TT_29 : TT 29 = some ⟨1, false, [.int .i64 0], .plain (.int .i64), none⟩ := by kernel_rfl
@[simp] theorem TT_31 : TT 31 = some ⟨1, false, [.nilFunc], .plain (.func ⟨[24]⟩ ⟨[24, 28, 29]⟩ false), none⟩ := by kernel_rfl
@[simp] theorem TT_32 : TT 32 = some ⟨1, false, [.nilFunc], .plain (.func ⟨[24, 24]⟩ ⟨[4]⟩ false), none⟩ := by kernel_rfl
@[simp] theorem TT_33 : TT 33 = some ⟨1, false, [.nilFunc], .plain (.func ⟨[28, 28]⟩ ⟨[4]⟩ false), none⟩ := by kernel_rfl
@[simp] theorem TT_34 : TT 34 = some ⟨1, false, [.slice none 0 0], .slice 5 1 1 [.int .u8 0], none⟩ := by kernel_rfl
@[simp] theorem TT_36 : TT 36 = some ⟨1, false, [.nilFunc], .plain (.func ⟨[24]⟩ ⟨[34, 29]⟩ false), none⟩ := by kernel_rfl
@[simp] theorem TT_37 : TT 37 = some ⟨1, false, [.nilFunc], .plain (.func ⟨[34, 34]⟩ ⟨[4]⟩ false), none⟩ := by kernel_rfl
@[simp] theorem TT_38 : TT 38 = some ⟨1, false, [.nilFunc], .plain (.func ⟨[24, 3]⟩ ⟨[24]⟩ false), none⟩ := by kernel_rfl
@[simp] theorem TT_39 : TT 39 = some ⟨1, false, [.nilFunc], .plain (.func ⟨[24, 24, 5, 5]⟩ ⟨[4]⟩ false), none⟩ := by kernel_rfl
@[simp] theorem TT_40 : TT 40 = some ⟨1, false, [.nilFunc], .plain (.func ⟨[24, 5, 34, 5]⟩ ⟨[4]⟩ false), none⟩ := by kernel_rfl
@[simp] theorem TT_41 : TT 41 = some ⟨1, false, [.int .u64 0], .plain (.int .u64), none⟩ := by kernel_rfl
@[simp] theorem TT_42 : TT 42 = some ⟨1, false, [.int .u64 0], .plain (.int .u64), none⟩ := by kernel_rfl
@[simp] theorem TT_43 : TT 43 = some ⟨1, false, [.nilFunc], .plain (.func ⟨[24, 45]⟩ ⟨[4]⟩ false), none⟩ := by kernel_rfl
@[simp] theorem TT_44 : TT 44 = some ⟨2, true, [.int .u64 0, .int .u64 0], .arr 2 1 false, some true⟩ := by kernel_rfl
@[simp] theorem TT_45 : TT 45 = some ⟨2, true, [.int .u64 0, .int .u64 0], .arr 2 1 false, some true⟩ := by kernel_rfl
@[simp] theorem TT_46 : TT 46 = some ⟨1, false, [.nilFunc], .plain (.func ⟨[24, 5]⟩ ⟨[4]⟩ false), none⟩ := by kernel_rfl
@[simp] theorem TT_47 : TT 47 = some ⟨1, false, [.slice none 0 0], .slice 57 3 40 [.int .u8 0, .slice none 0 0, .int .i64 0], none⟩ := by kernel_rfl
@[simp] theorem TT_48 : TT 48 = some ⟨1, false, [.pointer none], .plain (.pointer 73), none⟩ := by kernel_rfl
@[simp] theorem TT_50 : TT 50 = some ⟨1, false, [.nilFunc], .plain (.func ⟨[3]⟩ ⟨[48, 29]⟩ false), none⟩ := by kernel_rfl
@[simp] theorem TT_51 : TT 51 = some ⟨1, false, [.slice none 0 0], .slice 96 2 24 [.string ⟨⟨[]⟩⟩, .int .i64 0], none⟩ := by kernel_rfl
@[simp] theorem TT_52 : TT 52 = some ⟨2, true, [.int .i64 0, .slice none 0 0], .strct [(0, 1, false), (1, 1, false)], none⟩ := by kernel_rfl
@[simp] theorem TT_53 : TT 53 = some ⟨2, true, [.int .i64 0, .slice none 0 0], .strct [(0, 1, false), (1, 1, false)], none⟩ := by kernel_rfl
@[simp] theorem TT_55 : TT 55 = some ⟨1, false, [.nilFunc], .plain (.func ⟨[3]⟩ ⟨[53, 29]⟩ false), none⟩ := by kernel_rfl
@[simp] theorem TT_56 : TT 56 = some ⟨3, true, [.int .u8 0, .slice none 0 0, .int .i64 0], .strct [(0, 1, false), (1, 1, false), (2, 1, false)], none⟩ := by kernel_rfl
@[simp] theorem TT_57 : TT 57 = some ⟨3, true, [.int .u8 0, .slice none 0 0, .int .i64 0], .strct [(0, 1, false), (1, 1, false), (2, 1, false)], none⟩ := by kernel_rfl
@[simp] theorem TT_58 : TT 58 = some ⟨1, false, [.nilFunc], .plain (.func ⟨[34, 3]⟩ ⟨[29]⟩ false), none⟩ := by kernel_rfl
@[simp] theorem TT_59 : TT 59 = some ⟨1, false, [.nilFunc], .plain (.func ⟨[9, 3]⟩ ⟨[29]⟩ false), none⟩ := by kernel_rfl
@[simp] theorem TT_61 : TT 61 = some ⟨1, false, [.nilFunc], .plain (.func ⟨[34]⟩ ⟨[3, 4]⟩ false), none⟩ := by kernel_rfl
@[simp] theorem TT_62 : TT 62 = some ⟨1, false, [.nilFunc], .plain (.func ⟨[9]⟩ ⟨[3, 4]⟩ false), none⟩ := by kernel_rfl
@[simp] theorem TT_63 : TT 63 = some ⟨1, false, [.nilFunc], .plain (.func ⟨[]⟩ ⟨[3]⟩ false), none⟩ := by kernel_rfl
@[simp] theorem TT_64 : TT 64 = some ⟨1, false, [.nilFunc], .plain (.func ⟨[3, 47]⟩ ⟨[4]⟩ false), none⟩ := by kernel_rfl
@[simp] theorem TT_65 : TT 65 = some ⟨1, false, [.int .u16 0], .plain (.int .u16), none⟩ := by kernel_rfl
@[simp] theorem TT_66 : TT 66 = some ⟨1, false, [.nilFunc], .plain (.func ⟨[3]⟩ ⟨[34]⟩ false), none⟩ := by kernel_rfl
@[simp] theorem TT_67 : TT 67 = some ⟨1, false, [.nilFunc], .plain (.func ⟨[65, 34]⟩ ⟨[4]⟩ false), none⟩ := by kernel_rfl
@[simp] theorem TT_68 : TT 68 = some ⟨1, false, [.map none], .plain (.map 5 3), none⟩ := by kernel_rfl
@[simp] theorem TT_69 : TT 69 = some ⟨1, false, [.nilFunc], .plain (.func ⟨[34, 65]⟩ ⟨[4]⟩ false), none⟩ := by kernel_rfl
@[simp] theorem TT_70 : TT 70 = some ⟨1, false, [.map none], .plain (.map 9 71), none⟩ := by kernel_rfl
@[simp] theorem TT_71 : TT 71 = some ⟨1, false, [.pointer none], .plain (.pointer 91), none⟩ := by kernel_rfl
@[simp] theorem TT_72 : TT 72 = some ⟨4, true, [.int .i64 0, .int .i64 0, .map none, .pointer none], .strct [(0, 1, false), (1, 1, false), (2, 1, false), (3, 1, false)], none⟩ := by kernel_rfl
@[simp] theorem TT_73 : TT 73 = some ⟨4, true, [.int .i64 0, .int .i64 0, .map none, .pointer none], .strct [(0, 1, false), (1, 1, false), (2, 1, false), (3, 1, false)], none⟩ := by kernel_rfl
@[simp] theorem TT_74 : TT 74 = some ⟨1, false, [.slice none 0 0], .slice 48 1 8 [.pointer none], none⟩ := by kernel_rfl
@[simp] theorem TT_75 : TT 75 = some ⟨1, false, [.nilFunc], .plain (.func ⟨[34, 3, 3]⟩ ⟨[4]⟩ false), none⟩ := by kernel_rfl
@[simp] theorem TT_76 : TT 76 = some ⟨1, false, [.nilFunc], .plain (.func ⟨[]⟩ ⟨[24]⟩ false), none⟩ := by kernel_rfl
@[simp] theorem TT_78 : TT 78 = some ⟨1, false, [.nilFunc], .plain (.func ⟨[24]⟩ ⟨[24, 29]⟩ false), none⟩ := by kernel_rfl
@[simp] theorem TT_79 : TT 79 = some ⟨1, false, [.nilFunc], .plain (.func ⟨[45]⟩ ⟨[28]⟩ false), none⟩ := by kernel_rfl
@[simp] theorem TT_80 : TT 80 = some ⟨1, false, [.nilFunc], .plain (.func ⟨[24]⟩ ⟨[45]⟩ false), none⟩ := by kernel_rfl
@[simp] theorem TT_81 : TT 81 = some ⟨129, true, [.int .i64 0, .int .i64 0, .int .i64 0, .int .i64 0, .int .i64 0, .int .i64 0, .int .i64 0, .int .i64 0, .int .i64 0, .int .i64 0, .int .i64 0, .int .i64 0, .int .i64 0, .int .i64 0, .int .i64 0, .int .i64 0, .int .i64 0, .int .i64 0, .int .i64 0, .int .i64 0, .int .i64 0, .int .i64 0, .int .i64 0, .int .i64 0, .int .i64 0, .int .i64 0, .int .i64 0, .int .i64 0, .int .i64 0, .int .i64 0, .int .i64 0, .int .i64 0, .int .i64 0, .int .i64 0, .int .i64 0, .int .i64 0, .int .i64 0, .int .i64 0, .int .i64 0, .int .i64 0, .int .i64 0, .int .i64 0, .int .i64 0, .int .i64 0, .int .i64 0, .int .i64 0, .int .i64 0, .int .i64 0, .int .i64 0, .int .i64 0, .int .i64 0, .int .i64 0, .int .i64 0, .int .i64 0, .int .i64 0, .int .i64 0, .int .i64 0, .int .i64 0, .int .i64 0, .int .i64 0, .int .i64 0, .int .i64 0, .int .i64 0, .int .i64 0, .int .i64 0, .int .i64 0, .int .i64 0, .int .i64 0, .int .i64 0, .int .i64 0, .int .i64 0, .int .i64 0, .int .i64 0, .int .i64 0, .int .i64 0, .int .i64 0, .int .i64 0, .int .i64 0, .int .i64 0, .int .i64 0, .int .i64 0, .int .i64 0, .int .i64 0, .int .i64 0, .int .i64 0, .int .i64 0, .int .i64 0, .int .i64 0, .int .i64 0, .int .i64 0, .int .i64 0, .int .i64 0, .int .i64 0, .int .i64 0, .int .i64 0, .int .i64 0, .int .i64 0, .int .i64 0, .int .i64 0, .int .i64 0, .int .i64 0, .int .i64 0, .int .i64 0, .int .i64 0, .int .i64 0, .int .i64 0, .int .i64 0, .int .i64 0, .int .i64 0, .int .i64 0, .int .i64 0, .int .i64 0, .int .i64 0, .int .i64 0, .int .i64 0, .int .i64 0, .int .i64 0, .int .i64 0, .int .i64 0, .int .i64 0, .int .i64 0, .int .i64 0, .int .i64 0, .int .i64 0, .int .i64 0, .int .i64 0, .int .i64 0, .int .i64 0, .int .i64 0], .arr 129 1 false, some true⟩ := by kernel_rfl
@[simp] theorem TT_82 : TT 82 = some ⟨1, false, [.nilFunc], .plain (.func ⟨[3]⟩ ⟨[3]⟩ false), none⟩ := by kernel_rfl
@[simp] theorem TT_83 : TT 83 = some ⟨1, false, [.nilFunc], .plain (.func ⟨[45, 3]⟩ ⟨[4]⟩ false), none⟩ := by kernel_rfl
@[simp] theorem TT_84 : TT 84 = some ⟨1, false, [.nilFunc], .plain (.func ⟨[24]⟩ ⟨[29]⟩ false), none⟩ := by kernel_rfl
@[simp] theorem TT_85 : TT 85 = some ⟨1, false, [.nilFunc], .plain (.func ⟨[45, 45]⟩ ⟨[4]⟩ false), none⟩ := by kernel_rfl
@[simp] theorem TT_86 : TT 86 = some ⟨1, false, [.nilFunc], .plain (.func ⟨[3]⟩ ⟨[45]⟩ false), none⟩ := by kernel_rfl
@[simp] theorem TT_87 : TT 87 = some ⟨1, false, [.nilFunc], .plain (.func ⟨[45, 28]⟩ ⟨[4]⟩ false), none⟩ := by kernel_rfl
@[simp] theorem TT_88 : TT 88 = some ⟨2, true, [.string ⟨⟨[]⟩⟩, .int .i64 0], .strct [(0, 1, false), (1, 1, false)], none⟩ := by kernel_rfl
@[simp] theorem TT_89 : TT 89 = some ⟨2, true, [.string ⟨⟨[]⟩⟩, .int .i64 0], .strct [(0, 1, false), (1, 1, false)], none⟩ := by kernel_rfl
@[simp] theorem TT_90 : TT 90 = some ⟨4, true, [.pointer none, .pointer none, .string ⟨⟨[]⟩⟩, .int .i64 0], .strct [(0, 1, false), (1, 1, false), (2, 2, true)], none⟩ := by kernel_rfl
@[simp] theorem TT_91 : TT 91 = some ⟨4, true, [.pointer none, .pointer none, .string ⟨⟨[]⟩⟩, .int .i64 0], .strct [(0, 1, false), (1, 1, false), (2, 2, true)], none⟩ := by kernel_rfl
@[simp] theorem TT_93 : TT 93 = some ⟨1, false, [.nilFunc], .plain (.func ⟨[71]⟩ ⟨[]⟩ false), none⟩ := by kernel_rfl
@[simp] theorem TT_94 : TT 94 = some ⟨1, false, [.pointer none], .plain (.pointer 53), none⟩ := by kernel_rfl
@[simp] theorem TT_95 : TT 95 = some ⟨2, true, [.string ⟨⟨[]⟩⟩, .int .i64 0], .strct [(0, 1, false), (1, 1, false)], none⟩ := by kernel_rfl
@[simp] theorem TT_96 : TT 96 = some ⟨2, true, [.string ⟨⟨[]⟩⟩, .int .i64 0], .strct [(0, 1, false), (1, 1, false)], none⟩ := by kernel_rfl
@[simp] theorem TT_97 : TT 97 = some ⟨1, false, [.nilFunc], .plain (.func ⟨[51]⟩ ⟨[3]⟩ false), none⟩ := by kernel_rfl
@[simp] theorem TT_99 : TT 99 = some ⟨1, false, [.nilFunc], .plain (.func ⟨[28, 3]⟩ ⟨[28, 4, 29]⟩ false), none⟩ := by kernel_rfl
@[simp] theorem TT_100 : TT 100 = some ⟨1, false, [.nilFunc], .plain (.func ⟨[22, 101]⟩ ⟨[]⟩ false), none⟩ := by kernel_rfl
@[simp] theorem TT_101 : TT 101 = some ⟨1, false, [.nilFunc], .plain (.func ⟨[28, 28]⟩ ⟨[3]⟩ false), none⟩ := by kernel_rfl
@[simp] theorem TT_102 : TT 102 = some ⟨1, false, [.nilFunc], .plain (.func ⟨[22, 33]⟩ ⟨[22]⟩ false), none⟩ := by kernel_rfl
@[simp] theorem TT_103 : TT 103 = some ⟨1, false, [.nilFunc], .plain (.func ⟨[105]⟩ ⟨[28]⟩ false), none⟩ := by kernel_rfl
@[simp] theorem TT_104 : TT 104 = some ⟨1, false, [.nilFunc], .plain (.func ⟨[114]⟩ ⟨[]⟩ false), none⟩ := by kernel_rfl
@[simp] theorem TT_105 : TT 105 = some ⟨1, false, [.nilFunc], .plain (.func ⟨[114]⟩ ⟨[]⟩ false), none⟩ := by kernel_rfl
@[simp] theorem TT_106 : TT 106 = some ⟨1, false, [.nilFunc], .plain (.func ⟨[45]⟩ ⟨[105]⟩ false), none⟩ := by kernel_rfl
@[simp] theorem TT_107 : TT 107 = some ⟨1, false, [.nilFunc], .plain (.func ⟨[45, 3]⟩ ⟨[45]⟩ false), none⟩ := by kernel_rfl
@[simp] theorem TT_109 : TT 109 = some ⟨1, false, [.nilFunc], .plain (.func ⟨[28, 3]⟩ ⟨[28, 4]⟩ false), none⟩ := by kernel_rfl
@[simp] theorem TT_110 : TT 110 = some ⟨1, false, [.nilFunc], .plain (.func ⟨[22, 28]⟩ ⟨[22]⟩ false), none⟩ := by kernel_rfl
@[simp] theorem TT_111 : TT 111 = some ⟨1, false, [.nilFunc], .plain (.func ⟨[3, 3]⟩ ⟨[4]⟩ false), none⟩ := by kernel_rfl
@[simp] theorem TT_112 : TT 112 = some ⟨1, false, [.nilFunc], .plain (.func ⟨[45, 45]⟩ ⟨[45]⟩ false), none⟩ := by kernel_rfl
@[simp] theorem TT_113 : TT 113 = some ⟨1, false, [.nilFunc], .plain (.func ⟨[28, 114]⟩ ⟨[4]⟩ false), none⟩ := by kernel_rfl
@[simp] theorem TT_114 : TT 114 = some ⟨1, false, [.nilFunc], .plain (.func ⟨[3]⟩ ⟨[4]⟩ false), none⟩ := by kernel_rfl
@[simp] theorem TT_115 : TT 115 = some ⟨1, false, [.nilFunc], .plain (.func ⟨[28, 3]⟩ ⟨[4]⟩ false), none⟩ := by kernel_rfl
@[simp] theorem TT_116 : TT 116 = some ⟨1, false, [.nilFunc], .plain (.func ⟨[28]⟩ ⟨[28]⟩ false), none⟩ := by kernel_rfl
@[simp] theorem TT_117 : TT 117 = some ⟨1, false, [.nilFunc], .plain (.func ⟨[28]⟩ ⟨[4]⟩ false), none⟩ := by kernel_rfl
@[simp] theorem TT_118 : TT 118 = some ⟨1, false, [.nilFunc], .plain (.func ⟨[22, 3, 3, 3, 101]⟩ ⟨[]⟩ false), none⟩ := by kernel_rfl
@[simp] theorem TT_119 : TT 119 = some ⟨1, false, [.nilFunc], .plain (.func ⟨[42]⟩ ⟨[3]⟩ false), none⟩ := by kernel_rfl
@[simp] theorem TT_120 : TT 120 = some ⟨1, false, [.nilFunc], .plain (.func ⟨[28, 105]⟩ ⟨[28]⟩ false), none⟩ := by kernel_rfl
@[simp] theorem TT_121 : TT 121 = some ⟨1, false, [.nilFunc], .plain (.func ⟨[41]⟩ ⟨[3]⟩ false), none⟩ := by kernel_rfl
@[simp] theorem TT_123 : TT 123 = some ⟨1, false, [.nilFunc], .plain (.func ⟨[3]⟩ ⟨[3, 41, 4]⟩ false), none⟩ := by kernel_rfl
@[simp] theorem TT_124 : TT 124 = some ⟨1, false, [.nilFunc], .plain (.func ⟨[28, 114]⟩ ⟨[3]⟩ false), none⟩ := by kernel_rfl
@[simp] theorem TT_125 : TT 125 = some ⟨1, false, [.nilFunc], .plain (.func ⟨[28, 126]⟩ ⟨[]⟩ false), none⟩ := by kernel_rfl
@[simp] theorem TT_126 : TT 126 = some ⟨1, false, [.nilFunc], .plain (.func ⟨[3, 3]⟩ ⟨[3]⟩ false), none⟩ := by kernel_rfl
@[simp] theorem TT_127 : TT 127 = some ⟨1, false, [.nilFunc], .plain (.func ⟨[22, 3, 3, 101]⟩ ⟨[]⟩ false), none⟩ := by kernel_rfl
@[simp] theorem TT_128 : TT 128 = some ⟨1, false, [.int .i64 0], .plain (.int .i64), none⟩ := by kernel_rfl
@[simp] theorem TT_130 : TT 130 = some ⟨1, false, [.nilFunc], .plain (.func ⟨[22, 3, 3, 101]⟩ ⟨[3, 128]⟩ false), none⟩ := by kernel_rfl
@[simp] theorem TT_131 : TT 131 = some ⟨1, false, [.nilFunc], .plain (.func ⟨[22, 3, 3, 101]⟩ ⟨[4]⟩ false), none⟩ := by kernel_rfl
@[simp] theorem TT_132 : TT 132 = some ⟨1, false, [.nilFunc], .plain (.func ⟨[22, 3, 3, 3, 101]⟩ ⟨[3]⟩ false), none⟩ := by kernel_rfl
@[simp] theorem TT_133 : TT 133 = some ⟨1, false, [.nilFunc], .plain (.func ⟨[22, 3, 3, 3, 101]⟩ ⟨[3, 4]⟩ false), none⟩ := by kernel_rfl
@[simp] theorem TT_134 : TT 134 = some ⟨1, false, [.nilFunc], .plain (.func ⟨[135]⟩ ⟨[3]⟩ false), none⟩ := by kernel_rfl
@[simp] theorem TT_135 : TT 135 = some ⟨1, false, [.int .u32 0], .plain (.int .u32), none⟩ := by kernel_rfl
@[simp] theorem TT_136 : TT 136 = some ⟨64, true, [.int .u8 0, .int .u8 0, .int .u8 0, .int .u8 0, .int .u8 0, .int .u8 0, .int .u8 0, .int .u8 0, .int .u8 0, .int .u8 0, .int .u8 0, .int .u8 0, .int .u8 0, .int .u8 0, .int .u8 0, .int .u8 0, .int .u8 0, .int .u8 0, .int .u8 0, .int .u8 0, .int .u8 0, .int .u8 0, .int .u8 0, .int .u8 0, .int .u8 0, .int .u8 0, .int .u8 0, .int .u8 0, .int .u8 0, .int .u8 0, .int .u8 0, .int .u8 0, .int .u8 0, .int .u8 0, .int .u8 0, .int .u8 0, .int .u8 0, .int .u8 0, .int .u8 0, .int .u8 0, .int .u8 0, .int .u8 0, .int .u8 0, .int .u8 0, .int .u8 0, .int .u8 0, .int .u8 0, .int .u8 0, .int .u8 0, .int .u8 0, .int .u8 0, .int .u8 0, .int .u8 0, .int .u8 0, .int .u8 0, .int .u8 0, .int .u8 0, .int .u8 0, .int .u8 0, .int .u8 0, .int .u8 0, .int .u8 0, .int .u8 0, .int .u8 0], .arr 64 1 false, some true⟩ := by kernel_rfl
@[simp] theorem TT_137 : TT 137 = some ⟨1, false, [.nilFunc], .plain (.func ⟨[28, 3, 3, 3, 126]⟩ ⟨[]⟩ false), none⟩ := by kernel_rfl
@[simp] theorem TT_138 : TT 138 = some ⟨1, false, [.int .u64 0], .plain (.int .u64), none⟩ := by kernel_rfl
@[simp] theorem TT_139 : TT 139 = some ⟨1, false, [.nilFunc], .plain (.func ⟨[3]⟩ ⟨[42]⟩ false), none⟩ := by kernel_rfl
@[simp] theorem TT_140 : TT 140 = some ⟨1, false, [.nilFunc], .plain (.func ⟨[]⟩ ⟨[41]⟩ false), none⟩ := by kernel_rfl
@[simp] theorem TT_141 : TT 141 = some ⟨1, false, [.nilFunc], .plain (.func ⟨[22, 3, 142, 101]⟩ ⟨[3]⟩ false), none⟩ := by kernel_rfl
@[simp] theorem TT_142 : TT 142 = some ⟨1, false, [.pointer none], .plain (.pointer 3), none⟩ := by kernel_rfl
@[simp] theorem TT_143 : TT 143 = some ⟨1, false, [.nilFunc], .plain (.func ⟨[22, 3, 3, 3, 142, 101]⟩ ⟨[3]⟩ false), none⟩ := by kernel_rfl
@[simp] theorem TT_144 : TT 144 = some ⟨1, false, [.nilFunc], .plain (.func ⟨[28, 3, 3, 126]⟩ ⟨[]⟩ false), none⟩ := by kernel_rfl
@[simp] theorem TT_145 : TT 145 = some ⟨1, false, [.nilFunc], .plain (.func ⟨[28, 3, 3, 126]⟩ ⟨[3, 128]⟩ false), none⟩ := by kernel_rfl
@[simp] theorem TT_146 : TT 146 = some ⟨1, false, [.nilFunc], .plain (.func ⟨[28, 3, 3, 126]⟩ ⟨[4]⟩ false), none⟩ := by kernel_rfl
@[simp] theorem TT_147 : TT 147 = some ⟨1, false, [.nilFunc], .plain (.func ⟨[28, 3, 3, 3, 126]⟩ ⟨[3]⟩ false), none⟩ := by kernel_rfl
@[simp] theorem TT_148 : TT 148 = some ⟨1, false, [.nilFunc], .plain (.func ⟨[28, 3, 3, 3, 126]⟩ ⟨[3, 4]⟩ false), none⟩ := by kernel_rfl
@[simp] theorem TT_149 : TT 149 = some ⟨1, false, [.pointer none], .plain (.pointer 138), none⟩ := by kernel_rfl
@[simp] theorem TT_151 : TT 151 = some ⟨1, false, [.nilFunc], .plain (.func ⟨[22, 3, 3, 142, 101]⟩ ⟨[3, 3]⟩ false), none⟩ := by kernel_rfl
@[simp] theorem TT_152 : TT 152 = some ⟨1, false, [.nilFunc], .plain (.func ⟨[28, 3, 142, 126]⟩ ⟨[3]⟩ false), none⟩ := by kernel_rfl
@[simp] theorem TT_153 : TT 153 = some ⟨1, false, [.nilFunc], .plain (.func ⟨[28, 3, 3, 3, 142, 126]⟩ ⟨[3]⟩ false), none⟩ := by kernel_rfl
@[simp] theorem TT_154 : TT 154 = some ⟨1, false, [.nilFunc], .plain (.func ⟨[28, 3, 3, 142, 126]⟩ ⟨[3, 3]⟩ false), none⟩ := by kernel_rfl
@[simp] theorem TT_155 : TT 155 = some ⟨1, false, [.nilFunc], .plain (.func ⟨[]⟩ ⟨[9]⟩ false), none⟩ := by kernel_rfl
@[simp] theorem TT_163 : TT 163 = some ⟨1, false, [.nilFunc], .plain (.func ⟨[169, 169]⟩ ⟨[4]⟩ false), none⟩ := by kernel_rfl
@[simp] theorem TT_164 : TT 164 = some ⟨1, false, [.pointer none], .plain (.pointer 5), none⟩ := by kernel_rfl
@[simp] theorem TT_169 : TT 169 = some ⟨1, false, [.pointer none], .plain .unsafePointer, none⟩ := by kernel_rfl
theorem TTl_all : TTl.map (fun p => mkTI Tryd.prog p.1) = TTl.map (fun p => some p.2) := by kernel_rfl
theorem TTl_ok : ∀ p ∈ TTl, mkTI Tryd.prog p.1 = some p.2 := fun p hp => List.map_inj_left.1 TTl_all p hp
theorem TT_ok : TTok Tryd.prog TT := fun _ _ h => mkTI_ok (TTl_ok _ (mem_lk h))
end Go.Proofs.YtafikekndefjcaaDoor
